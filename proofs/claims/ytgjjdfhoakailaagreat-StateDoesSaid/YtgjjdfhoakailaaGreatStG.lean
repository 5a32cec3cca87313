/-
  ref26: write: walked.
  ref26: discard: walked.
  ref26: Do: walked.
  ref26: Do: a snapshot, a deletion, a rollback: walked.
-/
import Derived.Test.YtgjjdfhoakailaaGreatStL
import Derived.Test.YtgjjdfhoakailaaGreatStK1
import Derived.Test.YtgjjdfhoakailaaGreatStU
namespace Go.Proofs.YtgjjdfhoakailaaGreat
open Go.RowKit Go.Maps Go.Sort Go.Shelf
set_option linter.unusedVariables false
set_option linter.unusedSimpArgs false

/-- ref26's state in memory. -/
structure RfIs (w : World) (B xs n m c : Nat) (A : Option Addr) (l : List It) : Prop where
  blk : Blk w xs 80 #[.int .i64 (n : Int), .slice A m c]
  own : w.ownsRow B 56 73 (.slice A m c) m (itsC l)
  len : l.length = m
  high : n ≤ 512
section
variable {w w' : World} {B xs n m c : Nat} {A : Option Addr} {l : List It}
theorem RfIs.src (h : RfIs w B xs n m c A l) : Src w 73 (.slice A m c) m (itsC l) := Src.of_own h.own
theorem RfIs.below (h : RfIs w B xs n m c A l) (hb : Below w.heap.size w w') : RfIs w' B xs n m c A l := ⟨h.blk.below hb h.blk.lt, own_belowR h.own hb, h.len, h.high⟩
theorem RfIs.c0 (h : RfIs w B xs n m c A l) : w.cell? ⟨xs, 0, none⟩ = some (.int .i64 (n : Int)) := h.blk.cell rfl
theorem RfIs.c1 (h : RfIs w B xs n m c A l) : w.cell? ⟨xs, 1, none⟩ = some (.slice A m c) := h.blk.cell rfl
end
section
variable {P : Program} {w : World} {ops : Array Oper} {rest : List Oper} {o : Oper} {a : Act} {Q : Exit → Act → World → Prop}
/-- An empty slice literal. -/
theorem wpl_lit0 (hg : o.guard = none) (t e : TypeId) (hop : o.op = .buildSlice t 0 #[]) (hu : P.underlying t = some (.slice e)) {z : Value} {sz bytes : Nat}
    (hi : (P.info? e).map (fun i => (i.zero, i.size, i.bytes)) = some (some z, sz, bytes)) (base : Nat) (hbase : base ≤ w.heap.size)
    (hK : ∀ v w1, w1.ownsRow base e sz v 0 [] → w.grownBy w1 none → wpList P ops Q rest (a.put o.dst v) w1) : wpList P ops Q (o :: rest) a w := by
  obtain ⟨i0, hi', hz0, hz1, hz2⟩ := info_parts hi
  refine wpList_plain hg fun K hK2 => ?_
  unfold Oper.wp execOp
  have hr : (Instr.buildSlice t 0 (Array.map (fun x : Nat × Operand => (x.1, a.eval x.2)) #[])).run P w = .ok (.slice (some ⟨w.heap.size, 0, none⟩) 0 0) (w.alloc (.cells #[] e)) := by
    have e0 : Array.range 0 = #[] := by simp
    simp [Instr.buildSlice, run_underlying hu, sizeOf, typeInfo, hi', Instr.fill, newRow]
    rw [e0]
    simp
  simp only [hop, Sem.run_bind, hr, Result.andThen_ok]
  refine hK2 _ _ (hK _ _ ?_ (World.grownBy_alloc w _ none))
  exact ⟨by simp, .inr ⟨w.heap.size, 0, #[], rfl, hbase, Blk.made _ _ _, Nat.le_refl _, Nat.zero_le _, by simp, by simp⟩⟩
end
theorem blk_rng {w w' : World} {b o : Nat} {vs : List Value} (h : w.rangeAt b o vs) (hb : Below w.heap.size w w') (hv : 0 < vs.length) : w'.rangeAt b o vs := by
  have hlt : b < w.heap.size := by
    obtain ⟨v, hv⟩ : ∃ v, vs[0]? = some v := ⟨vs[0], List.getElem?_eq_getElem hv⟩
    exact block_lt_of_cell (h 0 v hv)
  exact fun j v hv => (World.cell?_of_block (a := ⟨b, o + j, none⟩) (hb.block b hlt)).trans (h j v hv)
def WrtPost (n : Nat) (l : List It) (o : OpV) (w : World) (e : Ending) (w' : World) : Prop :=
  ∃ v, e = .returned (.tuple #[v, .int .i64 (writeL n l o).2]) ∧ ((writeL n l o).2 = 0 → w'.ownsRow w.heap.size 56 73 v (writeL n l o).1.length (itsC (writeL n l o).1) ∧ (writeL n l o).1.length ≤ l.length + 36) ∧ Below w.heap.size w w'
theorem write_7 {n : Nat} {l : List It} {o : OpV} (h : o.news.any (fun p => (extI l p.key).isSome) = true) : writeL n l o = (l, 7) := by unfold writeL; rw [if_pos h]
theorem write_no {n : Nat} {l : List It} {o : OpV} (h : o.news.any (fun p => (extI l p.key).isSome) = false) (hp : putsL n (l ++ o.news.map frI) o.puts = none) : writeL n l o = (l, 2) := by unfold writeL; rw [h, hp]; rfl
theorem write_un {n : Nat} {l out : List It} {o : OpV} (h : o.news.any (fun p => (extI l p.key).isSome) = false) (hp : putsL n (l ++ o.news.map frI) o.puts = some out) (hc : o.news.any (fun p => cntI out p.key == 0) = true) : writeL n l o = (l, 2) := by unfold writeL; rw [h, hp]; simp only [Bool.false_eq_true, if_false]; rw [if_pos hc]
theorem write_ok {n : Nat} {l out : List It} {o : OpV} (h : o.news.any (fun p => (extI l p.key).isSome) = false) (hp : putsL n (l ++ o.news.map frI) o.puts = some out) (hc : o.news.any (fun p => cntI out p.key == 0) = false) : writeL n l o = (out, 0) := by unfold writeL; rw [h, hp]; simp only [Bool.false_eq_true, if_false]; rw [hc]; rfl
theorem WrtPost.bad {n : Nat} {l : List It} {o : OpV} {w w' : World} {v : Value} {r : Int} (h : writeL n l o = (l, r)) (hr : r ≠ 0) (hb : Below w.heap.size w w') : WrtPost n l o w (.returned (.tuple #[v, .int .i64 r])) w' := ⟨v, by rw [h], by rw [h]; exact fun e => absurd e hr, hb⟩
theorem map_take {l : List Fr} {i : Nat} (hi : i < l.length) : (l.take (i + 1)).map frI = (l.take i).map frI ++ [frI l[i]] := by
  rw [List.take_succ_eq_append_getElem hi, List.map_append]
  rfl
theorem putL_len (r : List It) (p : Pu) : (putL r p).length ≤ r.length + 1 := by
  unfold putL withoutL
  rw [List.length_append, List.length_singleton]
  have := List.length_filter_le (outB 0 p.unit (p.unit + 1)) r
  omega
theorem itC_uni (x : It) : (itC x)[35]? = some (.int .i64 x.pl.uni) := by
  have e : itC x = (.int .u8 x.kind :: (keyL x.key ++ [.int .i64 x.pl.pos, .int .i64 x.pl.sec])) ++ (.int .i64 x.pl.uni :: .int .i64 x.pl.ref :: .int .i64 x.snap :: .int .i64 x.unit :: slC x.sl) := by simp [itC, plC]
  rw [e, List.getElem?_append_right (by simp [keyL_len])]
  simp [keyL_len]
theorem pu_info' (p : Pu) : (Tryz.prog.info? 132).map (·.size) = some (puC p).length := puC_info p
/-- A struct is built. -/
theorem qs_mk {P : Program} {l : List Oper} {Q : Exit → Act → World → Prop} {S : Nat → World → Prop} {o : Oper} {r : List (Oper × Option Nat)} {k m : Nat} {a : Act} {w : World} (hw : Region.wanted o (yielded l.toArray a.tmps) = true)
    (t : TypeId) (parts : Array (Nat × Operand)) (ho : o.op = .build t parts) (vals : List (Nat × Value)) (hl : parts.toList.map (fun x => (x.1, a.eval x.2)) = vals) (cs : Array Value) (hf : P.built t vals = some cs)
    (h : wpQs P l Q S r k (a.put o.dst (.agg cs)) w) : wpQs P l Q S ((o, some m) :: r) k a w := by
  have hf' : P.built t (parts.map fun (i, x) => (i, a.eval x)).toList = some cs := by
    rw [Array.toList_map]
    rw [← hl] at hf
    exact hf
  refine qs_mid (v := .agg cs) hw (fun j w' _ _ _ => ?_) h
  have hr := run_build w' t (parts.map fun (i, x) => (i, a.eval x)) cs hf'
  unfold execOp
  simp only [ho, Sem.run_bind, hr, Result.andThen_ok]
  rfl
theorem putsL_step {n : Nat} {r : List It} {ps : List Pu} {i : Nat} (hi : i < ps.length) : putsL n r (ps.drop i) = if putB n r ps[i] then putsL n (putL r ps[i]) (ps.drop (i + 1)) else none := by
  rw [List.drop_eq_getElem_cons hi]
  rfl
theorem putB_1 {n : Int} {q : List It} {x : Pu} (h : ¬ x.unit < n) : putB n q x = false := by unfold putB; rw [decide_eq_false h]; rfl
theorem putB_2 {n : Int} {q : List It} {x : Pu} (h : extI q x.sl.key = none) : putB n q x = false := by unfold putB; rw [h]; simp
theorem putB_3 {n : Int} {q : List It} {x : Pu} {y : It} (h : extI q x.sl.key = some y) (h2 : ¬ x.sl.off < y.pl.uni) : putB n q x = false := by unfold putB; rw [h]; simp only; rw [decide_eq_false h2]; simp
theorem putB_4 {n : Int} {q : List It} {x : Pu} {y : It} (h1 : x.unit < n) (h : extI q x.sl.key = some y) (h2 : x.sl.off < y.pl.uni) : putB n q x = true := by unfold putB; rw [h]; simp only; rw [decide_eq_true h1, decide_eq_true h2]; rfl
set_option maxRecDepth 100000 in
set_option maxHeartbeats 4000000 in
theorem rWrite_any {w : World} {B xs n m c : Nat} {A : Option Addr} {l : List It} (h : RfIs w B xs n m c A l) (hmm : m ≤ 1000000) {o : OpV} {A1 : Option Addr} {c1 : Nat} {B1 : Option Addr} {d1 : Nat} (ho : OpAt w o A1 c1 B1 d1)
    (hn : o.news.length ≤ 18) (hm : o.puts.length ≤ 18) (hu : ∀ p ∈ o.puts, 0 ≤ p.unit ∧ p.unit ≤ 511) :
    Calls Tryz.prog 51 #[.pointer (some ⟨xs, 0, none⟩), .agg (opC o A1 c1 B1 d1).toArray] w (WrtPost n l o w) := by
  have HS := Lib.hid h
  have H := Lib.hid ho
  have HU := Lib.hid hu
  have HLm := Lib.hid h.len
  have hn512 := h.high
  clear h ho hu
  go_enter Tryz.func51, Tryz.ntmps51
  go_upto_region 1 with (first
    | ((with_reducible show wpList _ _ _ (_ :: _) _ _); refine wpl_box rfl 35 (.tmp 1) (by rfl) (opC o A1 c1 B1 d1).toArray (by rfl) ?_; intro w1 hk hg hz; have K1 := Lib.hid hk; have L1 := Lib.hid (bl_n (Below.refl _ w) hg); clear hk hg hz; simp only [Act.put, List.setIfInBounds_toArray, List.set_cons_zero, List.set_cons_succ]))
  have S1 := Lib.hid (HS.out.below L1.out)
  have s1 := S1.out.c1
  go_upto_region 3 with (first
    | ((with_reducible show wpList _ _ _ (_ :: _) _ _); refine wpl_lit0 rfl 41 56 (by rfl) Tryz.underlying41 info_It w1.heap.size (Nat.le_refl _) ?_; intro v2 w2 ho hg; have O2 := Lib.hid ho; have G2 := Lib.hid (bl_n (Below.refl _ w1) hg); have s1 := (S1.out.below G2.out).c1; clear ho hg; simp only [Act.put, List.setIfInBounds_toArray, List.set_cons_zero, List.set_cons_succ])
    | ((with_reducible show wpList _ _ _ (_ :: _) _ _); refine wpl_app_its rfl (.tmp 13) (.tmp 17) (by rfl) w1.heap.size v2 [] (by rfl) O2.out _ l (by rfl) (by have := (S1.out.below G2.out).src; rw [HLm.out]; exact this) (by simp; have := HLm.out; omega) G2.out.size ?_; intro v3 w3 ho hg; have O3 := Lib.hid (show w3.ownsRow w1.heap.size 56 73 v3 l.length (itsC l) from ho); have G3 := Lib.hid (G2.out.grown hg G2.out.size (fun k hk => (own_at O2.out k hk).1)); clear ho hg; simp only [Act.put, List.setIfInBounds_toArray, List.set_cons_zero, List.set_cons_succ]))
  have L2 := Lib.hid (below_chain L1.out G3.out)
  have K3 := Lib.hid (K1.out.below G3.out K1.out.lt)
  have S3 := Lib.hid (S1.out.below G3.out)
  have H3 := Lib.hid (H.out.below L2.out)
  clear O2 G2 s1
  go_loopg [7] o.news.length (fun k iv wr => ∃ i : Nat, iv = .int .i64 (i : Int) ∧ i ≤ o.news.length ∧ i + k ≤ o.news.length ∧ o.news.length ≤ i + k ∧ (o.news.take i).any (fun p => (extI l p.key).isSome) = false ∧ Below w3.heap.size w3 wr)
  case atStart => exact ⟨0, rfl, by omega, by omega, by omega, by simp, Below.refl _ _⟩
  case round =>
    obtain ⟨i, rfl, i1, i2, i3, ha, hb⟩ := hrel
    have HA := Lib.hid ha
    have LB := Lib.hid hb
    clear ha hb
    have c4 := (K3.out.below LB.out K3.out.lt).cell (i := 4) (v := .slice A1 o.news.length c1) rfl
    by_cases hi : i < o.news.length
    · have hiI : (i : Int) < (o.news.length : Int) := by omega
      obtain ⟨b, off, hA, hr⟩ := src_part frC_len H3.out.news rfl hi
      have HN := Lib.hid (fun h => any_next (p := fun p : Fr => (extI l p.key).isSome) hi HA.out h)
      have HT := Lib.hid (fun h => any_hit (p := fun p : Fr => (extI l p.key).isSome) hi h)
      generalize o.news[i] = x at hr HN HT
      subst hA
      have GD := Lib.hid (show ∀ W, Below w3.heap.size w3 W → W.cell? ⟨xs, 1, none⟩ = some (.slice A m c) ∧ W.cell? ⟨w.heap.size, 4, none⟩ = some (.slice (some ⟨b, off, none⟩) o.news.length c1) ∧ W.rangeAt b (off + i * 36) (keyL x.key) from fun W hW =>
        ⟨(S3.out.below hW).c1, (K3.out.below hW K3.out.lt).cell rfl, blk_rng (rng_sub hr 0 (keyL x.key) (frC_key x)) hW (by rw [keyL_len]; omega)⟩)
      clear hr
      cases hx : extI l x.key with
      | none =>
        have HZ := Lib.hid (show ∀ z, ExtZ l x.key z → z = -1 from fun z hz => hz.none hx)
        have HF := Lib.hid (HN.out (by rw [hx]; rfl))
        clear hx HN HT
        go_upto_region 5 with fail
        refine wp_region_qs (fun _ w' => w'.cell? ⟨xs, 1, none⟩ = some (.slice A m c) ∧ w'.cell? ⟨w.heap.size, 4, none⟩ = some (.slice (some ⟨b, off, none⟩) o.news.length c1) ∧ w'.rangeAt b (off + i * 36) (keyL x.key)) [(0, some 1), (1, some 1), (2, some 1), (3, some 0), (4, some 1), (5, some 1), (6, some 1), (7, some 1), (8, some 1), (9, some 0), (10, none), (11, some 1)] (by kernel_rfl) (by kernel_rfl) (by kernel_rfl) (by kernel_rfl) (by kernel_rfl) (fun _ _ _ _ _ h => h) (GD.out _ LB.out.drew) ?_
        simp only [List.map_cons, List.map_nil, List.getD_cons_succ, List.getD_cons_zero]
        (repeat (first | ((refine qs_row (by rfl) 50 (.tmp 34) (by rfl) b (off + i * 36) (by rfl) (keyL x.key) _ (fun j w' _ h2 h => h.2.2) Tryz.underlying50 rfl (keyL_info _) ?_); simp only [Act.put, List.setIfInBounds_toArray, List.set_cons_zero, List.set_cons_succ]) | (refine qs_now (v := ?_) (by rfl) ?_ ?_; rotate_left 1; (· (intro w' hS; go_simp; (try (simp only [↓IntWalk.iteOmega]; go_simp)); (try simp (disch := omega) only [IntWalk.i64_in]); try with_reducible rfl)); simp only [Act.put, List.setIfInBounds_toArray, List.set_cons_zero, List.set_cons_succ]) | (refine qs_run (v := ?_) (by rfl) ?_ ?_; rotate_left 1; (· (intro j w' hS; go_simp; (try (simp only [↓IntWalk.iteOmega]; go_simp)); (try simp (disch := omega) only [IntWalk.i64_in]); try with_reducible rfl)); simp only [Act.put, List.setIfInBounds_toArray, List.set_cons_zero, List.set_cons_succ]) | (refine qs_mid (v := ?_) (by rfl) ?_ ?_; rotate_left 1; (· (intro j w' hj1 hj2 hS; go_simp; (try (simp only [↓IntWalk.iteOmega]; go_simp)); (try simp (disch := omega) only [IntWalk.i64_in]); try with_reducible rfl)); simp only [Act.put, List.setIfInBounds_toArray, List.set_cons_zero, List.set_cons_succ]) | (refine qs_skip (by rfl) ?_; simp only [Act.put, List.setIfInBounds_toArray, List.set_cons_zero, List.set_cons_succ])))
        refine qs_act ?_
        go_wp2_with (go_at_call 88; refine (rExt_any (HS.out.src.below (below_chain L2.out LB.out.drew)) HS.out.len (by omega) x.key).mono ?_; rintro e w4 ⟨z, rfl, hz, hb⟩; have L4 := Lib.hid (below_chain LB.out.drew hb); have hz0 := HZ.out z hz; clear hb hz)
        refine ⟨GD.out _ L4.out, ?_⟩
        (repeat (first | (refine qs_now (v := ?_) (by rfl) ?_ ?_; rotate_left 1; (· (intro w' hS; go_simp; (try (simp only [↓IntWalk.iteOmega]; go_simp)); (try simp (disch := omega) only [IntWalk.i64_in]); try with_reducible rfl)); simp only [Act.put, List.setIfInBounds_toArray, List.set_cons_zero, List.set_cons_succ]) | (refine qs_run (v := ?_) (by rfl) ?_ ?_; rotate_left 1; (· (intro j w' hS; go_simp; (try (simp only [↓IntWalk.iteOmega]; go_simp)); (try simp (disch := omega) only [IntWalk.i64_in]); try with_reducible rfl)); simp only [Act.put, List.setIfInBounds_toArray, List.set_cons_zero, List.set_cons_succ]) | (refine qs_mid (v := ?_) (by rfl) ?_ ?_; rotate_left 1; (· (intro j w' hj1 hj2 hS; go_simp; (try (simp only [↓IntWalk.iteOmega]; go_simp)); (try simp (disch := omega) only [IntWalk.i64_in]); try with_reducible rfl)); simp only [Act.put, List.setIfInBounds_toArray, List.set_cons_zero, List.set_cons_succ]) | (refine qs_skip (by rfl) ?_; simp only [Act.put, List.setIfInBounds_toArray, List.set_cons_zero, List.set_cons_succ])))
        refine qs_nil ?_
        subst hz0
        go_wp2_with fail
        go_roundg (gk - 1)
        case measure => omega
        case rel => exact ⟨i + 1, by congr 1, by omega, by omega, by omega, HF.out, L4.out⟩
      | some y =>
        have HZ := Lib.hid (show ∀ z, ExtZ l x.key z → 0 ≤ z from fun z hz => by obtain ⟨j, hj, _, e⟩ := hz.some hx; omega)
        have HF := Lib.hid (write_7 (n := n) (HT.out (by rw [hx]; rfl)))
        clear hx HN HT
        go_upto_region 5 with fail
        refine wp_region_qs (fun _ w' => w'.cell? ⟨xs, 1, none⟩ = some (.slice A m c) ∧ w'.cell? ⟨w.heap.size, 4, none⟩ = some (.slice (some ⟨b, off, none⟩) o.news.length c1) ∧ w'.rangeAt b (off + i * 36) (keyL x.key)) [(0, some 1), (1, some 1), (2, some 1), (3, some 0), (4, some 1), (5, some 1), (6, some 1), (7, some 1), (8, some 1), (9, some 0), (10, none), (11, some 1)] (by kernel_rfl) (by kernel_rfl) (by kernel_rfl) (by kernel_rfl) (by kernel_rfl) (fun _ _ _ _ _ h => h) (GD.out _ LB.out.drew) ?_
        simp only [List.map_cons, List.map_nil, List.getD_cons_succ, List.getD_cons_zero]
        (repeat (first | ((refine qs_row (by rfl) 50 (.tmp 34) (by rfl) b (off + i * 36) (by rfl) (keyL x.key) _ (fun j w' _ h2 h => h.2.2) Tryz.underlying50 rfl (keyL_info _) ?_); simp only [Act.put, List.setIfInBounds_toArray, List.set_cons_zero, List.set_cons_succ]) | (refine qs_now (v := ?_) (by rfl) ?_ ?_; rotate_left 1; (· (intro w' hS; go_simp; (try (simp only [↓IntWalk.iteOmega]; go_simp)); (try simp (disch := omega) only [IntWalk.i64_in]); try with_reducible rfl)); simp only [Act.put, List.setIfInBounds_toArray, List.set_cons_zero, List.set_cons_succ]) | (refine qs_run (v := ?_) (by rfl) ?_ ?_; rotate_left 1; (· (intro j w' hS; go_simp; (try (simp only [↓IntWalk.iteOmega]; go_simp)); (try simp (disch := omega) only [IntWalk.i64_in]); try with_reducible rfl)); simp only [Act.put, List.setIfInBounds_toArray, List.set_cons_zero, List.set_cons_succ]) | (refine qs_mid (v := ?_) (by rfl) ?_ ?_; rotate_left 1; (· (intro j w' hj1 hj2 hS; go_simp; (try (simp only [↓IntWalk.iteOmega]; go_simp)); (try simp (disch := omega) only [IntWalk.i64_in]); try with_reducible rfl)); simp only [Act.put, List.setIfInBounds_toArray, List.set_cons_zero, List.set_cons_succ]) | (refine qs_skip (by rfl) ?_; simp only [Act.put, List.setIfInBounds_toArray, List.set_cons_zero, List.set_cons_succ])))
        refine qs_act ?_
        go_wp2_with (go_at_call 88; refine (rExt_any (HS.out.src.below (below_chain L2.out LB.out.drew)) HS.out.len (by omega) x.key).mono ?_; rintro e w4 ⟨z, rfl, hz, hb⟩; have L4 := Lib.hid (below_chain LB.out.drew hb); have hz0 := HZ.out z hz; clear hb hz)
        refine ⟨GD.out _ L4.out, ?_⟩
        (repeat (first | (refine qs_now (v := ?_) (by rfl) ?_ ?_; rotate_left 1; (· (intro w' hS; go_simp; (try (simp only [↓IntWalk.iteOmega]; go_simp)); (try simp (disch := omega) only [IntWalk.i64_in]); try with_reducible rfl)); simp only [Act.put, List.setIfInBounds_toArray, List.set_cons_zero, List.set_cons_succ]) | (refine qs_run (v := ?_) (by rfl) ?_ ?_; rotate_left 1; (· (intro j w' hS; go_simp; (try (simp only [↓IntWalk.iteOmega]; go_simp)); (try simp (disch := omega) only [IntWalk.i64_in]); try with_reducible rfl)); simp only [Act.put, List.setIfInBounds_toArray, List.set_cons_zero, List.set_cons_succ]) | (refine qs_mid (v := ?_) (by rfl) ?_ ?_; rotate_left 1; (· (intro j w' hj1 hj2 hS; go_simp; (try (simp only [↓IntWalk.iteOmega]; go_simp)); (try simp (disch := omega) only [IntWalk.i64_in]); try with_reducible rfl)); simp only [Act.put, List.setIfInBounds_toArray, List.set_cons_zero, List.set_cons_succ]) | (refine qs_skip (by rfl) ?_; simp only [Act.put, List.setIfInBounds_toArray, List.set_cons_zero, List.set_cons_succ])))
        refine qs_nil ?_
        go_wp2_with fail
        go_ret2
        exact WrtPost.bad HF.out (by decide) (below_chain L2.out L4.out)
    · have hiI : ¬ (i : Int) < (o.news.length : Int) := by omega
      have HAny := Lib.hid (show o.news.any (fun p => (extI l p.key).isSome) = false by
        have := HA.out
        rwa [List.take_of_length_le (by omega)] at this)
      clear HA
      have O4 := Lib.hid (own_belowR O3.out LB.out)
      have G4 := Lib.hid (below_chain G3.out LB.out)
      obtain ⟨w4, hw4⟩ : ∃ v, v = wr := ⟨_, rfl⟩
      rw [← hw4] at O4 G4 c4 ⊢
      clear hw4 LB O3 G3 K3 S3 H3 L2
      go_upto_region 8 with fail
      clear c4
      go_loopg [6, 8] o.news.length (fun k v iv wr => ∃ (i : Nat) (r : List It), iv = .int .i64 (i : Int) ∧ i ≤ o.news.length ∧ i + k ≤ o.news.length ∧ o.news.length ≤ i + k ∧ r = l ++ (o.news.take i).map frI ∧ r.length ≤ l.length + i ∧ wr.ownsRow w1.heap.size 56 73 v r.length (itsC r) ∧ Below w1.heap.size w1 wr)
      case atStart => exact ⟨0, l, rfl, by omega, by omega, by omega, by simp, by omega, O4.out, G4.out⟩
      case round =>
        obtain ⟨i, r, rfl, i1, i2, i3, hr0, hrl, ho, hb⟩ := hrel
        have HR := Lib.hid hr0
        have O := Lib.hid ho
        have LB := Lib.hid hb
        clear hr0 ho hb
        have hl' := HLm.out
        have c4 := (K1.out.below LB.out K1.out.lt).cell (i := 4) (v := .slice A1 o.news.length c1) rfl
        by_cases hi : i < o.news.length
        · have hiI : (i : Int) < (o.news.length : Int) := by omega
          obtain ⟨b, off, hA, hr⟩ := src_part frC_len (H.out.news.below L1.out) rfl hi
          have HN := Lib.hid (show r ++ [frI o.news[i]] = l ++ (o.news.take (i + 1)).map frI by rw [map_take hi, ← List.append_assoc, ← HR.out])
          generalize o.news[i] = x at hr HN
          subst hA
          have GD := Lib.hid (show ∀ W, Below w1.heap.size w1 W → W.cell? ⟨w.heap.size, 4, none⟩ = some (.slice (some ⟨b, off, none⟩) o.news.length c1) ∧ W.rangeAt b (off + i * 36) (keyL x.key) ∧ W.rangeAt b (off + i * 36 + 32) (plC x.pl) from fun W hW =>
            ⟨(K1.out.below hW K1.out.lt).cell rfl, blk_rng (rng_sub hr 0 (keyL x.key) (frC_key x)) hW (by rw [keyL_len]; omega), blk_rng (rng_sub hr 32 (plC x.pl) (frC_pl x)) hW (by rw [plC_len]; omega)⟩)
          have HFl := Lib.hid (show (r ++ [frI x]).length ≤ l.length + (i + 1) by rw [List.length_append, List.length_singleton]; omega)
          clear hr
          go_upto_region 10 with fail
          refine wp_region_qs (fun _ w' => w'.cell? ⟨w.heap.size, 4, none⟩ = some (.slice (some ⟨b, off, none⟩) o.news.length c1) ∧ w'.rangeAt b (off + i * 36) (keyL x.key) ∧ w'.rangeAt b (off + i * 36 + 32) (plC x.pl)) [(0, some 1), (1, some 2), (2, some 2), (3, some 2), (4, some 2), (5, some 2), (6, some 2), (7, some 2), (8, some 2), (9, some 2), (10, some 2), (11, some 2), (12, some 2), (13, some 1), (14, none), (15, none), (16, some 2)] (by kernel_rfl) (by kernel_rfl) (by kernel_rfl) (by kernel_rfl) (by kernel_rfl) (fun _ _ _ _ _ h => h) (GD.out _ LB.out.drew) ?_
          simp only [List.map_cons, List.map_nil, List.getD_cons_succ, List.getD_cons_zero]
          (repeat (first | ((first | (refine qs_row (by rfl) 50 (.tmp 50) (by rfl) b (off + i * 36) (by rfl) (keyL x.key) _ (fun j w' _ h2 h => h.2.1) Tryz.underlying50 rfl (keyL_info _) ?_) | (refine qs_row (by rfl) 52 (.tmp 56) (by rfl) b (off + i * 36 + 32) (by rfl) (plC x.pl) _ (fun j w' _ h2 h => h.2.2) Tryz.underlying52 rfl (plC_infoB _) ?_) | (refine qs_mk (by rfl) 56 #[(0, .const (.int .u8 1)), (1, .tmp 51), (2, .tmp 57)] (by rfl) [(0, .int .u8 1), (1, .agg (keyL x.key).toArray), (2, .agg (plC x.pl).toArray)] (by rfl) _ (built_ext x.key x.pl) ?_)); simp only [Act.put, List.setIfInBounds_toArray, List.set_cons_zero, List.set_cons_succ]) | (refine qs_now (v := ?_) (by rfl) ?_ ?_; rotate_left 1; (· (intro w' hS; go_simp; (try (simp only [↓IntWalk.iteOmega]; go_simp)); (try simp (disch := omega) only [IntWalk.i64_in]); try with_reducible rfl)); simp only [Act.put, List.setIfInBounds_toArray, List.set_cons_zero, List.set_cons_succ]) | (refine qs_run (v := ?_) (by rfl) ?_ ?_; rotate_left 1; (· (intro j w' hS; go_simp; (try (simp only [↓IntWalk.iteOmega]; go_simp)); (try simp (disch := omega) only [IntWalk.i64_in]); try with_reducible rfl)); simp only [Act.put, List.setIfInBounds_toArray, List.set_cons_zero, List.set_cons_succ]) | (refine qs_mid (v := ?_) (by rfl) ?_ ?_; rotate_left 1; (· (intro j w' hj1 hj2 hS; go_simp; (try (simp only [↓IntWalk.iteOmega]; go_simp)); (try simp (disch := omega) only [IntWalk.i64_in]); try with_reducible rfl)); simp only [Act.put, List.setIfInBounds_toArray, List.set_cons_zero, List.set_cons_succ]) | (refine qs_skip (by rfl) ?_; simp only [Act.put, List.setIfInBounds_toArray, List.set_cons_zero, List.set_cons_succ])))
          refine qs_act ?_
          go_wp2_with ((with_reducible show wpList _ _ _ (_ :: _) _ _); refine wpl_lit_it rfl (.tmp 58) (by rfl) (frI x) (by rfl) ?_; intro w5 hk hg hz; have K5 := Lib.hid hk; have L5 := Lib.hid (bl_n LB.out.drew hg); have O5 := Lib.hid (own_belowR O.out (bl_n (Below.refl _ wr).drew hg)); clear hk hg hz; simp only [Act.put, List.setIfInBounds_toArray, List.set_cons_zero, List.set_cons_succ])
          refine ⟨GD.out _ L5.out, ?_⟩
          (repeat (first | (refine qs_now (v := ?_) (by rfl) ?_ ?_; rotate_left 1; (· (intro w' hS; go_simp; (try (simp only [↓IntWalk.iteOmega]; go_simp)); (try simp (disch := omega) only [IntWalk.i64_in]); try with_reducible rfl)); simp only [Act.put, List.setIfInBounds_toArray, List.set_cons_zero, List.set_cons_succ]) | (refine qs_run (v := ?_) (by rfl) ?_ ?_; rotate_left 1; (· (intro j w' hS; go_simp; (try (simp only [↓IntWalk.iteOmega]; go_simp)); (try simp (disch := omega) only [IntWalk.i64_in]); try with_reducible rfl)); simp only [Act.put, List.setIfInBounds_toArray, List.set_cons_zero, List.set_cons_succ]) | (refine qs_mid (v := ?_) (by rfl) ?_ ?_; rotate_left 1; (· (intro j w' hj1 hj2 hS; go_simp; (try (simp only [↓IntWalk.iteOmega]; go_simp)); (try simp (disch := omega) only [IntWalk.i64_in]); try with_reducible rfl)); simp only [Act.put, List.setIfInBounds_toArray, List.set_cons_zero, List.set_cons_succ]) | (refine qs_skip (by rfl) ?_; simp only [Act.put, List.setIfInBounds_toArray, List.set_cons_zero, List.set_cons_succ])))
          refine qs_act ?_
          go_wp2_with ((with_reducible show wpList _ _ _ (_ :: _) _ _); refine wpl_app_it rfl (.tmp 45) (.tmp 59) (by rfl) w1.heap.size u6 r (by rfl) O5.out _ (frI x) (by rfl) K5.out (by omega) L5.out.size ?_; intro v' w6 ho hg; have O6 := Lib.hid ho; have L6 := Lib.hid (L5.out.grown hg L5.out.size (fun k hk => (own_at O5.out k hk).1)); clear ho hg; simp only [Act.put, List.setIfInBounds_toArray, List.set_cons_zero, List.set_cons_succ])
          refine ⟨GD.out _ L6.out, ?_⟩
          (repeat (first | (refine qs_now (v := ?_) (by rfl) ?_ ?_; rotate_left 1; (· (intro w' hS; go_simp; (try (simp only [↓IntWalk.iteOmega]; go_simp)); (try simp (disch := omega) only [IntWalk.i64_in]); try with_reducible rfl)); simp only [Act.put, List.setIfInBounds_toArray, List.set_cons_zero, List.set_cons_succ]) | (refine qs_run (v := ?_) (by rfl) ?_ ?_; rotate_left 1; (· (intro j w' hS; go_simp; (try (simp only [↓IntWalk.iteOmega]; go_simp)); (try simp (disch := omega) only [IntWalk.i64_in]); try with_reducible rfl)); simp only [Act.put, List.setIfInBounds_toArray, List.set_cons_zero, List.set_cons_succ]) | (refine qs_mid (v := ?_) (by rfl) ?_ ?_; rotate_left 1; (· (intro j w' hj1 hj2 hS; go_simp; (try (simp only [↓IntWalk.iteOmega]; go_simp)); (try simp (disch := omega) only [IntWalk.i64_in]); try with_reducible rfl)); simp only [Act.put, List.setIfInBounds_toArray, List.set_cons_zero, List.set_cons_succ]) | (refine qs_skip (by rfl) ?_; simp only [Act.put, List.setIfInBounds_toArray, List.set_cons_zero, List.set_cons_succ])))
          refine qs_nil ?_
          go_wp2_with fail
          go_roundg (gk - 1)
          case measure => omega
          case rel => exact ⟨i + 1, r ++ [frI x], by congr 1, by omega, by omega, by omega, HN.out, HFl.out, O6.out, L6.out⟩
        · have hiI : ¬ (i : Int) < (o.news.length : Int) := by omega
          have HR2 := Lib.hid (show r = l ++ o.news.map frI by
            have := HR.out
            rwa [List.take_of_length_le (by omega)] at this)
          have hrl2 : r.length ≤ l.length + 18 := by omega
          obtain ⟨w5, hw5⟩ : ∃ v, v = wr := ⟨_, rfl⟩
          rw [← hw5] at O LB c4 ⊢
          clear hw5 HR O4 G4
          go_upto_region 12 with fail
          clear c4
          go_loopg [6, 9] o.puts.length (fun k v iv wr => ∃ (i : Nat) (q : List It), iv = .int .i64 (i : Int) ∧ i ≤ o.puts.length ∧ i + k ≤ o.puts.length ∧ o.puts.length ≤ i + k ∧ putsL n (l ++ o.news.map frI) o.puts = putsL n q (o.puts.drop i) ∧ q.length ≤ l.length + 18 + i ∧ wr.ownsRow w1.heap.size 56 73 v q.length (itsC q) ∧ Below w1.heap.size w1 wr)
          case atStart => exact ⟨0, r, rfl, by omega, by omega, by omega, by rw [HR2.out]; rfl, by omega, O.out, LB.out⟩
          case round =>
            obtain ⟨i, q, rfl, i1, i2, i3, hr0, hrl, ho, hb⟩ := hrel
            clear O LB
            have HR := Lib.hid hr0
            have O := Lib.hid ho
            have LB := Lib.hid hb
            clear hr0 ho hb
            have c5 := (K1.out.below LB.out K1.out.lt).cell (i := 5) (v := .slice B1 o.puts.length d1) rfl
            by_cases hi : i < o.puts.length
            · have hiI : (i : Int) < (o.puts.length : Int) := by omega
              obtain ⟨b, off, hA, hr⟩ := src_part puC_len (H.out.puts.below L1.out) rfl hi
              have HB := Lib.hid (HU.out _ (List.getElem_mem hi))
              have HSt := Lib.hid (HR.out.trans (putsL_step hi))
              generalize o.puts[i] = x at hr HB HSt
              subst hA
              have Rg := Lib.hid (blk_rng hr LB.out (by rw [puC_len]; omega))
              clear hr
              go_upto_region 15 with (first
                | ((with_reducible show wpList _ _ _ (_ :: _) _ _); refine wpl_sidx rfl 33 (.tmp 69) (.tmp 70) (by rfl) Tryz.underlying33 Tryz.sizeOf132 b off o.puts.length d1 i (by rfl) (by rfl) hi ?_; simp only [Act.put, List.setIfInBounds_toArray, List.set_cons_zero, List.set_cons_succ])
                | ((with_reducible show wpList _ _ _ (_ :: _) _ _); refine wpList_load_mid rfl 132 (.tmp 71) (by rfl) b (off + i * 35) (by rfl) (puC x) _ Rg.out Tryz.underlying132 rfl (pu_info' x) ?_; simp only [Act.put, List.setIfInBounds_toArray, List.set_cons_zero, List.set_cons_succ])
                | ((with_reducible show wpList _ _ _ (_ :: _) _ _); refine wpl_alloc rfl 132 (by rfl) Tryz.zeroValue132 35 (by rfl) ?_; intro wa cs hk hc hg hz; have K := Lib.hid hk; have C := Lib.hid hc; have G := Lib.hid (bl_n (Below.refl _ wr) hg); clear hk hc hg hz; simp only [Act.put, List.setIfInBounds_toArray, List.set_cons_zero, List.set_cons_succ])
                | ((with_reducible show wpList _ _ _ (_ :: _) _ _); refine wpl_over rfl 132 (.tmp 10) (.tmp 72) (by rfl) wr.heap.size (puC x) (by rfl) (by rfl) _ cs K.out (pu_info' x) (by rw [puC_len, C.out]) (puC_one x) ?_; intro wb hk hg hz; have K2 := Lib.hid hk; have L2 := Lib.hid (bl_g G.out hg (Nat.le_refl _)); clear hk hg hz; simp only [Act.put, List.setIfInBounds_toArray, List.set_cons_zero, List.set_cons_succ]))
              have RK := Lib.hid (K2.out.part 1 (keyL x.sl.key) (puC_key x))
              have Lb := Lib.hid (below_chain LB.out L2.out)
              have Ob := Lib.hid (own_belowR O.out L2.out)
              have c5 := (K1.out.below Lb.out K1.out.lt).cell (i := 5) (v := .slice (some ⟨b, off, none⟩) o.puts.length d1) rfl
              obtain ⟨A9, c9, hv9, _⟩ := own_slice Ob.out
              subst hv9
              go_upto_region 16 with (first
                | ((with_reducible show wpList _ _ _ (_ :: _) _ _); refine wpList_load_mid rfl 50 (.tmp 75) (by rfl) wr.heap.size 1 (by rfl) (keyL x.sl.key) _ RK.out Tryz.underlying50 rfl (keyL_info _) ?_; simp only [Act.put, List.setIfInBounds_toArray, List.set_cons_zero, List.set_cons_succ])
                | (go_at_call 88; refine (rExt_any (Src.of_own Ob.out) rfl (by omega) x.sl.key).mono ?_; rintro e w6 ⟨z, rfl, hz, hb⟩; have HZ := Lib.hid hz; have L6 := Lib.hid (below_chain L2.out hb); have K6 := Lib.hid (K2.out.below hb K2.out.lt); have O6 := Lib.hid (own_belowR Ob.out hb); clear hb hz))
              clear K C G RK
              have Lw6 := Lib.hid (below_chain LB.out L6.out)
              have p0 := K6.out.cell (i := 0) (v := .int .i64 x.unit) rfl
              have p1 := K6.out.cell (puC_off x)
              have s0 := (S1.out.below Lw6.out).c0
              by_cases h1 : x.unit < n
              · have h1I : ¬ (n : Int) ≤ x.unit := by omega
                cases hx : extI q x.sl.key with
                | none =>
                  have hz0 := HZ.out.none hx
                  have HF := Lib.hid (show putsL n (l ++ o.news.map frI) o.puts = none by rw [HSt.out, putB_2 hx]; rfl)
                  clear hx h1
                  subst hz0
                  refine wp_region_qs (fun _ w' => w'.cell? ⟨wr.heap.size, 0, none⟩ = some (.int .i64 x.unit) ∧ w'.cell? ⟨xs, 0, none⟩ = some (.int .i64 (n : Int))) [(0, some 0), (1, some 0), (2, some 0), (3, some 0), (4, some 0), (5, some 0), (6, some 0), (7, some 0), (8, some 0), (9, some 0), (10, some 0), (11, some 0), (12, some 0), (13, some 0), (14, some 0), (15, some 0), (16, some 0), (17, some 0), (18, some 0), (19, some 0), (20, some 0), (21, some 0), (22, some 0)] (by kernel_rfl) (by kernel_rfl) (by kernel_rfl) (by kernel_rfl) (by kernel_rfl) (fun _ _ _ _ _ h => h) ⟨p0, s0⟩ ?_
                  simp only [List.map_cons, List.map_nil, List.getD_cons_succ, List.getD_cons_zero]
                  (repeat (first | (refine qs_now (v := ?_) (by rfl) ?_ ?_; rotate_left 1; (· (intro w' hS; go_simp; (try (simp only [↓IntWalk.iteOmega]; go_simp)); (try simp (disch := omega) only [IntWalk.i64_in]); try with_reducible rfl)); simp only [Act.put, List.setIfInBounds_toArray, List.set_cons_zero, List.set_cons_succ]) | (refine qs_run (v := ?_) (by rfl) ?_ ?_; rotate_left 1; (· (intro j w' hS; go_simp; (try (simp only [↓IntWalk.iteOmega]; go_simp)); (try simp (disch := omega) only [IntWalk.i64_in]); try with_reducible rfl)); simp only [Act.put, List.setIfInBounds_toArray, List.set_cons_zero, List.set_cons_succ]) | (refine qs_mid (v := ?_) (by rfl) ?_ ?_; rotate_left 1; (· (intro j w' hj1 hj2 hS; go_simp; (try (simp only [↓IntWalk.iteOmega]; go_simp)); (try simp (disch := omega) only [IntWalk.i64_in]); try with_reducible rfl)); simp only [Act.put, List.setIfInBounds_toArray, List.set_cons_zero, List.set_cons_succ]) | (refine qs_skip (by rfl) ?_; simp only [Act.put, List.setIfInBounds_toArray, List.set_cons_zero, List.set_cons_succ])))
                  refine qs_nil ?_
                  go_wp2_with fail
                  go_ret2
                  exact WrtPost.bad (write_no HAny.out HF.out) (by decide) (below_chain L1.out Lw6.out.drew)
                | some y =>
                  obtain ⟨j, hj, hy, hz0⟩ := HZ.out.some hx
                  obtain ⟨bq, oq, hAq, hrq⟩ := src_part itC_len (Src.of_own O6.out) rfl hj
                  rw [hy] at hrq
                  have u0 := hrq 35 _ (itC_uni y)
                  have hjI : (j : Int) < (q.length : Int) := by omega
                  clear hrq hy
                  subst hAq
                  subst hz0
                  by_cases h2 : x.sl.off < y.pl.uni
                  · have h2I : ¬ y.pl.uni ≤ x.sl.off := by omega
                    have HF := Lib.hid (show putsL n (l ++ o.news.map frI) o.puts = putsL n (putL q x) (o.puts.drop (i + 1)) by rw [HSt.out, putB_4 h1 hx h2, if_pos rfl])
                    have HFl := Lib.hid (show (putL q x).length ≤ l.length + 18 + (i + 1) by have := putL_len q x; omega)
                    have hub := HB.out
                    clear hx HZ
                    refine wp_region_qs (fun _ w' => w'.cell? ⟨wr.heap.size, 0, none⟩ = some (.int .i64 x.unit) ∧ w'.cell? ⟨xs, 0, none⟩ = some (.int .i64 (n : Int)) ∧ w'.cell? ⟨wr.heap.size, 33, none⟩ = some (.int .i64 x.sl.off) ∧ w'.cell? ⟨bq, oq + j * 73 + 35, none⟩ = some (.int .i64 y.pl.uni)) [(0, some 0), (1, some 0), (2, some 0), (3, some 0), (4, some 0), (5, some 0), (6, some 0), (7, some 0), (8, some 0), (9, some 0), (10, some 0), (11, some 0), (12, some 0), (13, some 0), (14, some 0), (15, some 0), (16, some 0), (17, some 0), (18, some 0), (19, some 0), (20, some 0), (21, some 0), (22, some 0)] (by kernel_rfl) (by kernel_rfl) (by kernel_rfl) (by kernel_rfl) (by kernel_rfl) (fun _ _ _ _ _ h => h) ⟨p0, s0, p1, u0⟩ ?_
                    simp only [List.map_cons, List.map_nil, List.getD_cons_succ, List.getD_cons_zero]
                    (repeat (first | (refine qs_now (v := ?_) (by rfl) ?_ ?_; rotate_left 1; (· (intro w' hS; go_simp; (try (simp only [↓IntWalk.iteOmega]; go_simp)); (try simp (disch := omega) only [IntWalk.i64_in]); try with_reducible rfl)); simp only [Act.put, List.setIfInBounds_toArray, List.set_cons_zero, List.set_cons_succ]) | (refine qs_run (v := ?_) (by rfl) ?_ ?_; rotate_left 1; (· (intro j w' hS; go_simp; (try (simp only [↓IntWalk.iteOmega]; go_simp)); (try simp (disch := omega) only [IntWalk.i64_in]); try with_reducible rfl)); simp only [Act.put, List.setIfInBounds_toArray, List.set_cons_zero, List.set_cons_succ]) | (refine qs_mid (v := ?_) (by rfl) ?_ ?_; rotate_left 1; (· (intro j w' hj1 hj2 hS; go_simp; (try (simp only [↓IntWalk.iteOmega]; go_simp)); (try simp (disch := omega) only [IntWalk.i64_in]); try with_reducible rfl)); simp only [Act.put, List.setIfInBounds_toArray, List.set_cons_zero, List.set_cons_succ]) | (refine qs_skip (by rfl) ?_; simp only [Act.put, List.setIfInBounds_toArray, List.set_cons_zero, List.set_cons_succ])))
                    refine qs_nil ?_
                    obtain ⟨w7, hw7⟩ : ∃ v, v = w6.drew := ⟨_, rfl⟩
                    have O7 := Lib.hid (show w7.ownsRow w1.heap.size 56 73 (.slice (some ⟨bq, oq, none⟩) q.length c9) q.length (itsC q) by rw [hw7]; exact own_belowR O6.out (Below.refl _ _).drew)
                    have K7 := Lib.hid (show Blk w7 wr.heap.size 132 (puC x).toArray by rw [hw7]; exact K6.out.drew)
                    have L7 := Lib.hid (show Below w1.heap.size w1 w7 by rw [hw7]; exact Lw6.out.drew)
                    rw [← hw7]
                    clear hw7 p0 p1 s0 u0 O6 K6 L6 Lw6 h1 h2
                    have p0 := K7.out.cell (i := 0) (v := .int .i64 x.unit) rfl
                    go_upto_region 19 with (first
                      | (go_at_call 56; refine (rWithout_any (Src.of_own O7.out) rfl (by omega) 0 x.unit (x.unit + 1)).mono ?_; rintro e w8 ⟨v8, rfl, ho, hb⟩; have O8 := Lib.hid (own_loR ho L7.out.size); have K8 := Lib.hid (K7.out.below hb K7.out.lt); have L8 := Lib.hid (below_chain L7.out hb); clear ho hb))
                    clear p0
                    have p0 := K8.out.cell (i := 0) (v := .int .i64 x.unit) rfl
                    have RS := Lib.hid (K8.out.part 1 (slC x.sl) (puC_sl x))
                    have HWl := Lib.hid (show (withoutL q 0 x.unit (x.unit + 1)).length ≤ 1000000000 by have := putL_len q x; unfold putL at this; rw [List.length_append] at this; omega)
                    go_wp2_with (first
                      | ((with_reducible show wpList _ _ _ (_ :: _) _ _); refine wpList_load_mid rfl 54 (.tmp 111) (by rfl) wr.heap.size 1 (by rfl) (slC x.sl) _ RS.out Tryz.underlying54 rfl (slC_info x.sl) ?_; simp only [Act.put, List.setIfInBounds_toArray, List.set_cons_zero, List.set_cons_succ])
                      | ((with_reducible show wpList _ _ _ (_ :: _) _ _); refine wpl_mk rfl 56 #[(0, .const (.int .u8 2)), (4, .tmp 110), (5, .tmp 112)] (by rfl) [(0, .int .u8 2), (4, .int .i64 x.unit), (5, .agg (slC x.sl).toArray)] (by rfl) _ (built_vw x.unit x.sl) ?_; simp only [Act.put, List.setIfInBounds_toArray, List.set_cons_zero, List.set_cons_succ])
                      | ((with_reducible show wpList _ _ _ (_ :: _) _ _); refine wpl_lit_it rfl (.tmp 113) (by rfl) (puI x) (by rfl) ?_; intro w9 hk hg hz; have K9 := Lib.hid hk; have L9 := Lib.hid (bl_n L8.out hg); have O9 := Lib.hid (own_belowR O8.out (bl_n (Below.refl _ w8) hg)); clear hk hg hz; simp only [Act.put, List.setIfInBounds_toArray, List.set_cons_zero, List.set_cons_succ])
                      | ((with_reducible show wpList _ _ _ (_ :: _) _ _); refine wpl_app_it rfl (.tmp 108) (.tmp 114) (by rfl) w1.heap.size v8 (withoutL q 0 x.unit (x.unit + 1)) (by rfl) O9.out _ (puI x) (by rfl) K9.out HWl.out L9.out.size ?_; intro v' wa ho hg; have Oa := Lib.hid ho; have La := Lib.hid (L9.out.grown hg L9.out.size (fun k hk => (own_at O9.out k hk).1)); clear ho hg; simp only [Act.put, List.setIfInBounds_toArray, List.set_cons_zero, List.set_cons_succ]))
                    go_roundg (gk - 1)
                    case measure => omega
                    case rel => exact ⟨i + 1, putL q x, by congr 1, by omega, by omega, by omega, HF.out, HFl.out, Oa.out, La.out⟩
                  · have h2I : y.pl.uni ≤ x.sl.off := by omega
                    have HF := Lib.hid (show putsL n (l ++ o.news.map frI) o.puts = none by rw [HSt.out, putB_3 hx h2]; rfl)
                    clear hx HZ
                    refine wp_region_qs (fun _ w' => w'.cell? ⟨wr.heap.size, 0, none⟩ = some (.int .i64 x.unit) ∧ w'.cell? ⟨xs, 0, none⟩ = some (.int .i64 (n : Int)) ∧ w'.cell? ⟨wr.heap.size, 33, none⟩ = some (.int .i64 x.sl.off) ∧ w'.cell? ⟨bq, oq + j * 73 + 35, none⟩ = some (.int .i64 y.pl.uni)) [(0, some 0), (1, some 0), (2, some 0), (3, some 0), (4, some 0), (5, some 0), (6, some 0), (7, some 0), (8, some 0), (9, some 0), (10, some 0), (11, some 0), (12, some 0), (13, some 0), (14, some 0), (15, some 0), (16, some 0), (17, some 0), (18, some 0), (19, some 0), (20, some 0), (21, some 0), (22, some 0)] (by kernel_rfl) (by kernel_rfl) (by kernel_rfl) (by kernel_rfl) (by kernel_rfl) (fun _ _ _ _ _ h => h) ⟨p0, s0, p1, u0⟩ ?_
                    simp only [List.map_cons, List.map_nil, List.getD_cons_succ, List.getD_cons_zero]
                    (repeat (first | (refine qs_now (v := ?_) (by rfl) ?_ ?_; rotate_left 1; (· (intro w' hS; go_simp; (try (simp only [↓IntWalk.iteOmega]; go_simp)); (try simp (disch := omega) only [IntWalk.i64_in]); try with_reducible rfl)); simp only [Act.put, List.setIfInBounds_toArray, List.set_cons_zero, List.set_cons_succ]) | (refine qs_run (v := ?_) (by rfl) ?_ ?_; rotate_left 1; (· (intro j w' hS; go_simp; (try (simp only [↓IntWalk.iteOmega]; go_simp)); (try simp (disch := omega) only [IntWalk.i64_in]); try with_reducible rfl)); simp only [Act.put, List.setIfInBounds_toArray, List.set_cons_zero, List.set_cons_succ]) | (refine qs_mid (v := ?_) (by rfl) ?_ ?_; rotate_left 1; (· (intro j w' hj1 hj2 hS; go_simp; (try (simp only [↓IntWalk.iteOmega]; go_simp)); (try simp (disch := omega) only [IntWalk.i64_in]); try with_reducible rfl)); simp only [Act.put, List.setIfInBounds_toArray, List.set_cons_zero, List.set_cons_succ]) | (refine qs_skip (by rfl) ?_; simp only [Act.put, List.setIfInBounds_toArray, List.set_cons_zero, List.set_cons_succ])))
                    refine qs_nil ?_
                    go_wp2_with fail
                    go_ret2
                    exact WrtPost.bad (write_no HAny.out HF.out) (by decide) (below_chain L1.out Lw6.out.drew)
              · have h1I : (n : Int) ≤ x.unit := by omega
                have HF := Lib.hid (show putsL n (l ++ o.news.map frI) o.puts = none by rw [HSt.out, putB_1 h1]; rfl)
                clear h1
                refine wp_region_qs (fun _ w' => w'.cell? ⟨wr.heap.size, 0, none⟩ = some (.int .i64 x.unit) ∧ w'.cell? ⟨xs, 0, none⟩ = some (.int .i64 (n : Int))) [(0, some 0), (1, some 0), (2, some 0), (3, some 0), (4, some 0), (5, some 0), (6, some 0), (7, some 0), (8, some 0), (9, some 0), (10, some 0), (11, some 0), (12, some 0), (13, some 0), (14, some 0), (15, some 0), (16, some 0), (17, some 0), (18, some 0), (19, some 0), (20, some 0), (21, some 0), (22, some 0)] (by kernel_rfl) (by kernel_rfl) (by kernel_rfl) (by kernel_rfl) (by kernel_rfl) (fun _ _ _ _ _ h => h) ⟨p0, s0⟩ ?_
                simp only [List.map_cons, List.map_nil, List.getD_cons_succ, List.getD_cons_zero]
                (repeat (first | (refine qs_now (v := ?_) (by rfl) ?_ ?_; rotate_left 1; (· (intro w' hS; go_simp; (try (simp only [↓IntWalk.iteOmega]; go_simp)); (try simp (disch := omega) only [IntWalk.i64_in]); try with_reducible rfl)); simp only [Act.put, List.setIfInBounds_toArray, List.set_cons_zero, List.set_cons_succ]) | (refine qs_run (v := ?_) (by rfl) ?_ ?_; rotate_left 1; (· (intro j w' hS; go_simp; (try (simp only [↓IntWalk.iteOmega]; go_simp)); (try simp (disch := omega) only [IntWalk.i64_in]); try with_reducible rfl)); simp only [Act.put, List.setIfInBounds_toArray, List.set_cons_zero, List.set_cons_succ]) | (refine qs_mid (v := ?_) (by rfl) ?_ ?_; rotate_left 1; (· (intro j w' hj1 hj2 hS; go_simp; (try (simp only [↓IntWalk.iteOmega]; go_simp)); (try simp (disch := omega) only [IntWalk.i64_in]); try with_reducible rfl)); simp only [Act.put, List.setIfInBounds_toArray, List.set_cons_zero, List.set_cons_succ]) | (refine qs_skip (by rfl) ?_; simp only [Act.put, List.setIfInBounds_toArray, List.set_cons_zero, List.set_cons_succ])))
                refine qs_nil ?_
                go_wp2_with fail
                go_ret2
                exact WrtPost.bad (write_no HAny.out HF.out) (by decide) (below_chain L1.out Lw6.out.drew)
            · have hiI : ¬ (i : Int) < (o.puts.length : Int) := by omega
              have HP := Lib.hid (show putsL n (l ++ o.news.map frI) o.puts = some q by
                rw [HR.out, List.drop_of_length_le (by omega)]
                rfl)
              have HQl := Lib.hid (show q.length ≤ l.length + 36 by omega)
              have hql : q.length ≤ 2000000 := by omega
              clear HR HR2
              obtain ⟨w6, hw6⟩ : ∃ v, v = wr := ⟨_, rfl⟩
              rw [← hw6] at O LB c5 ⊢
              clear hw6
              obtain ⟨A9, c9, hv9, _⟩ := own_slice O.out
              subst hv9
              go_upto_region 21 with fail
              clear c5
              go_loopg [12] o.news.length (fun k iv wr => ∃ i : Nat, iv = .int .i64 (i : Int) ∧ i ≤ o.news.length ∧ i + k ≤ o.news.length ∧ o.news.length ≤ i + k ∧ (o.news.take i).any (fun p => cntI q p.key == 0) = false ∧ Below w6.heap.size w6 wr)
              case atStart => exact ⟨0, rfl, by omega, by omega, by omega, by simp, Below.refl _ _⟩
              case round =>
                obtain ⟨i, rfl, i1, i2, i3, ha, hb⟩ := hrel
                have HA := Lib.hid ha
                have LC := Lib.hid hb
                clear ha hb
                have Lr := Lib.hid (below_chain LB.out LC.out)
                have c4 := (K1.out.below Lr.out K1.out.lt).cell (i := 4) (v := .slice A1 o.news.length c1) rfl
                have Or := Lib.hid (own_belowR O.out LC.out)
                by_cases hi : i < o.news.length
                · have hiI : (i : Int) < (o.news.length : Int) := by omega
                  obtain ⟨b, off, hA, hr⟩ := src_part frC_len (H.out.news.below (below_chain L1.out Lr.out)) rfl hi
                  have HN := Lib.hid (fun h => any_next (p := fun p : Fr => cntI q p.key == 0) hi HA.out h)
                  have HT := Lib.hid (fun h => any_hit (p := fun p : Fr => cntI q p.key == 0) hi h)
                  generalize o.news[i] = x at hr HN HT
                  subst hA
                  have RK := Lib.hid (rng_sub hr 0 (keyL x.key) (frC_key x))
                  clear hr
                  obtain ⟨m0, hm0⟩ : ∃ m, m = cntI q x.key := ⟨_, rfl⟩
                  have HM := Lib.hid hm0
                  rw [← hm0] at HN HT
                  clear hm0
                  by_cases hz : m0 = 0
                  · have b0 : (m0 == 0) = true := beq_iff_eq.2 hz
                    have HF := Lib.hid (HT.out b0)
                    clear hz HN HT
                    go_wp2_with (first
                      | ((with_reducible show wpList _ _ _ (_ :: _) _ _); refine wpList_load_mid rfl 50 (.tmp 128) (by rfl) b (off + i * 36) (by rfl) (keyL x.key) _ RK.out Tryz.underlying50 rfl (keyL_info _) ?_; simp only [Act.put, List.setIfInBounds_toArray, List.set_cons_zero, List.set_cons_succ])
                      | (go_at_call 87; refine (rRefs_any (Src.of_own Or.out) rfl (by omega) x.key).mono ?_; rintro e w8 ⟨rfl, hb⟩; rewrite [← HM.out]; have L8 := Lib.hid (below_chain Lr.out hb); clear hb))
                    go_ret2
                    exact WrtPost.bad (write_un HAny.out HP.out HF.out) (by decide) (below_chain L1.out L8.out)
                  · have b0 : (m0 == 0) = false := beq_eq_false_iff_ne.2 hz
                    have HF := Lib.hid (HN.out b0)
                    clear hz HN HT
                    go_wp2_with (first
                      | ((with_reducible show wpList _ _ _ (_ :: _) _ _); refine wpList_load_mid rfl 50 (.tmp 128) (by rfl) b (off + i * 36) (by rfl) (keyL x.key) _ RK.out Tryz.underlying50 rfl (keyL_info _) ?_; simp only [Act.put, List.setIfInBounds_toArray, List.set_cons_zero, List.set_cons_succ])
                      | (go_at_call 87; refine (rRefs_any (Src.of_own Or.out) rfl (by omega) x.key).mono ?_; rintro e w8 ⟨rfl, hb⟩; rewrite [← HM.out]; have L8 := Lib.hid (below_chain LC.out hb); clear hb))
                    go_roundg (gk - 1)
                    case measure => omega
                    case rel => exact ⟨i + 1, by congr 1, by omega, by omega, by omega, HF.out, L8.out⟩
                · have hiI : ¬ (i : Int) < (o.news.length : Int) := by omega
                  have HF := Lib.hid (show writeL n l o = (q, 0) from write_ok HAny.out HP.out (by
                    have := HA.out
                    rwa [List.take_of_length_le (by omega)] at this))
                  go_wp2_with fail
                  go_ret2
                  refine ⟨_, by rw [HF.out]; rfl, fun _ => ?_, below_chain L1.out Lr.out⟩
                  rw [HF.out]
                  exact ⟨own_loR Or.out L1.out.size, HQl.out⟩
end Go.Proofs.YtgjjdfhoakailaaGreat
namespace Go.Proofs.YtgjjdfhoakailaaGreat
open Go.RowKit Go.Maps Go.Sort Go.Shelf
set_option linter.unusedVariables false
set_option linter.unusedSimpArgs false

theorem shl_runU {P : Program} {o : Oper} {a : Act} {y : Operand} {ty tu : TypeId} (ho : o.op = .binOp .shl ty (.const (.int .i64 1)) y tu) {t : Nat} (hy : a.eval y = .int .u64 (t : Int)) (ht : t ≤ 8) (w : World) :
    (execOp a.eval o).run P w = .ok (.value (.int .i64 ((2 : Int) ^ t))) w := by
  have e1 : a.eval (.const (.int .i64 1)) = .int .i64 1 := rfl
  unfold execOp
  simp only [ho, hy, e1]
  rcases (by omega : t = 0 ∨ t = 1 ∨ t = 2 ∨ t = 3 ∨ t = 4 ∨ t = 5 ∨ t = 6 ∨ t = 7 ∨ t = 8) with rfl | rfl | rfl | rfl | rfl | rfl | rfl | rfl | rfl <;> rfl
def maskI (x : It) (m : Int) : It := ⟨x.kind, x.key, x.pl, x.snap, x.unit, ⟨x.sl.key, x.sl.off, m⟩⟩
theorem put_mask (i : It) (m : Int) : putAt (itC i).toArray 72 [.int .i64 m] = (itC (maskI i m)).toArray :=
  put_mid (.int .u8 i.kind :: (keyL i.key ++ (plC i.pl ++ (.int .i64 i.snap :: .int .i64 i.unit :: (keyL i.sl.key ++ [.int .i64 i.sl.off]))))) [] [.int .i64 i.sl.mask] _ 72 (by simp [itC, slC]) (by simp [itC, slC, maskI]) (by simp [keyL_len, plC_len]) rfl
theorem it_maskC (i : It) : (itC i)[72]? = some (.int .i64 i.sl.mask) := by
  have e : itC i = (.int .u8 i.kind :: (keyL i.key ++ (plC i.pl ++ (.int .i64 i.snap :: .int .i64 i.unit :: (keyL i.sl.key ++ [.int .i64 i.sl.off]))))) ++ [.int .i64 i.sl.mask] := by simp [itC, slC]
  rw [e, List.getElem?_append_right (by simp [keyL_len, plC_len])]
  simp [keyL_len, plC_len]
theorem maskI_two (x : It) (m m' : Int) : maskI (maskI x m) m' = maskI x m' := rfl
theorem disc1_is (a b : Int) (x : It) : disc1 a b x = if x.kind = 2 ∧ x.snap = 0 then (if bitGo x.unit a b 8 x.sl.mask = 0 then none else some (maskI x (bitGo x.unit a b 8 x.sl.mask))) else some x := rfl
theorem bitGo_1 {u a b : Int} {k : Nat} {m : Int} (h : a ≤ 8 * u + k ∧ 8 * u + k < b) : bitGo u a b (k + 1) m = anM (bitGo u a b k m) ((2 : Int) ^ k) := by
  show (if _ then _ else _) = _
  rw [if_pos h]
theorem bitGo_2 {u a b : Int} {k : Nat} {m : Int} (h : ¬ (a ≤ 8 * u + k ∧ 8 * u + k < b)) : bitGo u a b (k + 1) m = bitGo u a b k m := by
  show (if _ then _ else _) = _
  rw [if_neg h]
def DisPost (n : Nat) (l : List It) (o : OpV) (w : World) (e : Ending) (w' : World) : Prop :=
  ∃ v, e = .returned (.tuple #[v, .int .i64 (discL n l o).2]) ∧ ((discL n l o).2 = 0 → w'.ownsRow w.heap.size 56 73 v (discL n l o).1.length (itsC (discL n l o).1) ∧ (discL n l o).1.length ≤ l.length + 36) ∧ Below w.heap.size w w'
set_option maxRecDepth 100000 in
set_option maxHeartbeats 4000000 in
theorem rDiscard_any {w : World} {B xs n m c : Nat} {A : Option Addr} {l : List It} (h : RfIs w B xs n m c A l) (hmm : m ≤ 1000000) (o : OpV) (A1 : Option Addr) (c1 : Nat) (B1 : Option Addr) (d1 : Nat)
    (hp : 0 ≤ o.pos ∧ o.pos ≤ 4096) (hq : 0 ≤ o.n ∧ o.n ≤ 4096) (hu : ∀ x ∈ l, 0 ≤ x.unit ∧ x.unit ≤ 511) :
    Calls Tryz.prog 52 #[.pointer (some ⟨xs, 0, none⟩), .agg (opC o A1 c1 B1 d1).toArray] w (DisPost n l o w) := by
  have HS := Lib.hid h
  have HU := Lib.hid hu
  have HLm := Lib.hid h.len
  have hn512 := h.high
  obtain ⟨hp1, hp2⟩ := hp
  obtain ⟨hq1, hq2⟩ := hq
  clear h hu
  obtain ⟨bz, hbz⟩ : ∃ b : Bool, b = decide (8 * (n : Int) < o.pos + o.n) := ⟨_, rfl⟩
  have HBz := Lib.hid hbz
  clear hbz
  go_enter Tryz.func52, Tryz.ntmps52
  go_upto_region 1 with (first
    | ((with_reducible show wpList _ _ _ (_ :: _) _ _); refine wpl_box rfl 35 (.tmp 1) (by rfl) (opC o A1 c1 B1 d1).toArray (by rfl) ?_; intro w1 hk hg hz; have K1 := Lib.hid hk; have L1 := Lib.hid (bl_n (Below.refl _ w) hg); clear hk hg hz; simp only [Act.put, List.setIfInBounds_toArray, List.set_cons_zero, List.set_cons_succ]))
  have S1 := Lib.hid (HS.out.below L1.out)
  have s0 := S1.out.c0
  have e1 := K1.out.cell (i := 1) (v := .int .i64 o.pos) rfl
  have e2 := K1.out.cell (i := 2) (v := .int .i64 o.n) rfl
  cases bz
  case true =>
    have hI : 8 * (n : Int) < o.pos + o.n := of_decide_eq_true HBz.out.symm
    have HF := Lib.hid (show discL n l o = (l, 2) by unfold discL; rw [if_pos hI])
    refine wp_region_qs (fun _ w' => w'.cell? ⟨w.heap.size, 1, none⟩ = some (.int .i64 o.pos) ∧ w'.cell? ⟨w.heap.size, 2, none⟩ = some (.int .i64 o.n) ∧ w'.cell? ⟨xs, 0, none⟩ = some (.int .i64 (n : Int))) [(0, some 0), (1, some 0), (2, some 0), (3, some 0), (4, some 0), (5, some 0), (6, some 0), (7, some 0), (8, some 0), (9, some 0), (10, some 0)] (by kernel_rfl) (by kernel_rfl) (by kernel_rfl) (by kernel_rfl) (by kernel_rfl) (fun _ _ _ _ _ h => h) ⟨e1, e2, s0⟩ ?_
    simp only [List.map_cons, List.map_nil, List.getD_cons_succ, List.getD_cons_zero]
    (repeat (first | (refine qs_now (v := ?_) (by rfl) ?_ ?_; rotate_left 1; (· (intro w' hS; go_simp; (try (simp only [↓IntWalk.iteOmega]; go_simp)); (try simp (disch := omega) only [IntWalk.i64_in]); try with_reducible rfl)); simp only [Act.put, List.setIfInBounds_toArray, List.set_cons_zero, List.set_cons_succ]) | (refine qs_run (v := ?_) (by rfl) ?_ ?_; rotate_left 1; (· (intro j w' hS; go_simp; (try (simp only [↓IntWalk.iteOmega]; go_simp)); (try simp (disch := omega) only [IntWalk.i64_in]); try with_reducible rfl)); simp only [Act.put, List.setIfInBounds_toArray, List.set_cons_zero, List.set_cons_succ]) | (refine qs_mid (v := ?_) (by rfl) ?_ ?_; rotate_left 1; (· (intro j w' hj1 hj2 hS; go_simp; (try (simp only [↓IntWalk.iteOmega]; go_simp)); (try simp (disch := omega) only [IntWalk.i64_in]); try with_reducible rfl)); simp only [Act.put, List.setIfInBounds_toArray, List.set_cons_zero, List.set_cons_succ]) | (refine qs_skip (by rfl) ?_; simp only [Act.put, List.setIfInBounds_toArray, List.set_cons_zero, List.set_cons_succ])))
    refine qs_nil ?_
    go_wp2_with fail
    go_ret2
    exact ⟨_, by rw [HF.out]; rfl, by rw [HF.out]; exact fun e => absurd e (show ¬ (2 : Int) = 0 by decide), L1.out.drew⟩
  case false =>
    have hI : ¬ 8 * (n : Int) < o.pos + o.n := of_decide_eq_false HBz.out.symm
    have HD := Lib.hid (show discL n l o = (l.filterMap (disc1 o.pos (o.pos + o.n)), 0) by unfold discL; rw [if_neg hI])
    refine wp_region_qs (fun _ w' => w'.cell? ⟨w.heap.size, 1, none⟩ = some (.int .i64 o.pos) ∧ w'.cell? ⟨w.heap.size, 2, none⟩ = some (.int .i64 o.n) ∧ w'.cell? ⟨xs, 0, none⟩ = some (.int .i64 (n : Int))) [(0, some 0), (1, some 0), (2, some 0), (3, some 0), (4, some 0), (5, some 0), (6, some 0), (7, some 0), (8, some 0), (9, some 0), (10, some 0)] (by kernel_rfl) (by kernel_rfl) (by kernel_rfl) (by kernel_rfl) (by kernel_rfl) (fun _ _ _ _ _ h => h) ⟨e1, e2, s0⟩ ?_
    simp only [List.map_cons, List.map_nil, List.getD_cons_succ, List.getD_cons_zero]
    (repeat (first | (refine qs_now (v := ?_) (by rfl) ?_ ?_; rotate_left 1; (· (intro w' hS; go_simp; (try (simp only [↓IntWalk.iteOmega]; go_simp)); (try simp (disch := omega) only [IntWalk.i64_in]); try with_reducible rfl)); simp only [Act.put, List.setIfInBounds_toArray, List.set_cons_zero, List.set_cons_succ]) | (refine qs_run (v := ?_) (by rfl) ?_ ?_; rotate_left 1; (· (intro j w' hS; go_simp; (try (simp only [↓IntWalk.iteOmega]; go_simp)); (try simp (disch := omega) only [IntWalk.i64_in]); try with_reducible rfl)); simp only [Act.put, List.setIfInBounds_toArray, List.set_cons_zero, List.set_cons_succ]) | (refine qs_mid (v := ?_) (by rfl) ?_ ?_; rotate_left 1; (· (intro j w' hj1 hj2 hS; go_simp; (try (simp only [↓IntWalk.iteOmega]; go_simp)); (try simp (disch := omega) only [IntWalk.i64_in]); try with_reducible rfl)); simp only [Act.put, List.setIfInBounds_toArray, List.set_cons_zero, List.set_cons_succ]) | (refine qs_skip (by rfl) ?_; simp only [Act.put, List.setIfInBounds_toArray, List.set_cons_zero, List.set_cons_succ])))
    refine qs_nil ?_
    clear e1 e2 s0
    have S1d := Lib.hid (S1.out.below (Below.refl _ _).drew)
    have s1 := S1d.out.c1
    go_upto_region 5 with fail
    clear s1
    go_loopg [6, 7] m (fun k v iv wr => WoI w1 l m (fun i => (l.take i).filterMap (disc1 o.pos (o.pos + o.n))) k v iv wr)
    case atStart => exact ⟨0, [], rfl, by omega, by omega, by omega, by simp, by simp, World.ownsRow_nil _ _ _ _, (Below.refl _ _).drew⟩
    case round =>
      obtain ⟨i, r, rfl, i1, i2, i3, hr0, hrl, ho, hb⟩ := hrel
      obtain ⟨wo, hwo⟩ : ∃ v, v = wr := ⟨_, rfl⟩
      rw [← hwo] at ho hb ⊢
      clear hwo
      have HR := Lib.hid hr0
      have O := Lib.hid ho
      have LB := Lib.hid hb
      obtain ⟨g0, hg0⟩ : ∃ g, g = gk := ⟨_, rfl⟩
      have HG := Lib.hid hg0
      clear hr0 ho hb hg0
      have Sr := Lib.hid (S1.out.below LB.out)
      have s1 := Sr.out.c1
      by_cases hi : i < m
      · have hiI : (i : Int) < (m : Int) := by omega
        have hil : i < l.length := by rw [HLm.out]; exact hi
        obtain ⟨bb, off, hA, hr⟩ := src_part itC_len Sr.out.src HLm.out hil
        have HN := Lib.hid (fm_take (g := disc1 o.pos (o.pos + o.n)) hil)
        have HUx := Lib.hid (HU.out _ (List.getElem_mem hil))
        generalize l[i] = x at hr HN HUx
        subst hA
        have Rg := Lib.hid hr
        clear hr hil
        go_upto_region 8 with (first
          | ((with_reducible show wpList _ _ _ (_ :: _) _ _); refine wpl_sidx rfl 41 (.tmp 34) (.tmp 35) (by rfl) Tryz.underlying41 Tryz.sizeOf56 bb off m c i (by rfl) (by rfl) hi ?_; simp only [Act.put, List.setIfInBounds_toArray, List.set_cons_zero, List.set_cons_succ])
          | ((with_reducible show wpList _ _ _ (_ :: _) _ _); refine wpList_load_mid rfl 56 (.tmp 36) (by rfl) bb (off + i * 73) (by rfl) (itC x) _ Rg.out Tryz.underlying56 rfl (itC_info x) ?_; simp only [Act.put, List.setIfInBounds_toArray, List.set_cons_zero, List.set_cons_succ])
          | ((with_reducible show wpList _ _ _ (_ :: _) _ _); refine wpl_alloc rfl 56 (by rfl) Tryz.zeroValue56 73 zero_It_len ?_; intro wa cs hk hc hg hz; have K := Lib.hid hk; have C := Lib.hid hc; have G := Lib.hid (bl_n (Below.refl _ wo) hg); clear hk hc hg hz; simp only [Act.put, List.setIfInBounds_toArray, List.set_cons_zero, List.set_cons_succ])
          | ((with_reducible show wpList _ _ _ (_ :: _) _ _); refine wpl_over rfl 56 (.tmp 8) (.tmp 37) (by rfl) wo.heap.size (itC x) (by rfl) (by rfl) _ cs K.out (itC_info x) (by rw [itC_len, C.out]) (itC_one x) ?_; intro wb hk hg hz; have K2 := Lib.hid hk; have L2 := Lib.hid (bl_g G.out hg (Nat.le_refl _)); clear hk hg hz; simp only [Act.put, List.setIfInBounds_toArray, List.set_cons_zero, List.set_cons_succ]))
        clear K C G s1
        have k0 := itC_cell K2.out (j := 0) (v := .int .u8 x.kind) rfl
        have k1 := itC_cell K2.out (it_snap x)
        by_cases h2 : x.kind = 2
        · have b1 : (x.kind == 2) = true := beq_iff_eq.2 h2
          by_cases h3 : x.snap = 0
          · have b2 : (x.snap == 0) = true := beq_iff_eq.2 h3
            have HX := Lib.hid (show disc1 o.pos (o.pos + o.n) x = if bitGo x.unit o.pos (o.pos + o.n) 8 x.sl.mask = 0 then none else some (maskI x (bitGo x.unit o.pos (o.pos + o.n) 8 x.sl.mask)) by rw [disc1_is, if_pos ⟨h2, h3⟩])
            clear h2 h3
            have hux1 := HUx.out.1
            have hux2 := HUx.out.2
            go_upto_region 10 with fail
            clear k0 k1
            go_loopg [9] 8 (fun kk kv wk => ∃ k : Nat, kv = .int .i64 (k : Int) ∧ k ≤ 8 ∧ k + kk ≤ 8 ∧ 8 ≤ k + kk ∧ Blk wk wo.heap.size 56 (itC (maskI x (bitGo x.unit o.pos (o.pos + o.n) k x.sl.mask))).toArray ∧ Below wo.heap.size wo wk)
            case atStart => exact ⟨0, rfl, by omega, by omega, by omega, K2.out, L2.out⟩
            case round =>
              obtain ⟨k, rfl, k1, k2, k3, hK, hb⟩ := hrel
              clear K2 L2
              have K2 := Lib.hid hK
              have L2 := Lib.hid hb
              clear hK hb
              have Lk := Lib.hid (below_chain LB.out L2.out)
              have ck := (K1.out.below Lk.out K1.out.lt).cell (i := 1) (v := .int .i64 o.pos) rfl
              have cl := (K1.out.below Lk.out K1.out.lt).cell (i := 2) (v := .int .i64 o.n) rfl
              obtain ⟨mk, hmk⟩ : ∃ q, q = bitGo x.unit o.pos (o.pos + o.n) k x.sl.mask := ⟨_, rfl⟩
              have HMk := Lib.hid hmk
              rw [← hmk] at K2
              clear hmk
              have cu := itC_cell K2.out (it_unit (maskI x mk))
              have cu2 : wr.cell? ⟨wo.heap.size, 38, none⟩ = some (.int .i64 x.unit) := cu
              have cm := itC_cell K2.out (it_maskC (maskI x mk))
              have cm2 : wr.cell? ⟨wo.heap.size, 72, none⟩ = some (.int .i64 mk) := cm
              have f1 := K2.out.free 72
              clear cu cm
              by_cases hk : k < 8
              · have hkI : (k : Int) < 8 := by omega
                by_cases ha : o.pos ≤ 8 * x.unit + k
                · by_cases hz : 8 * x.unit + k < o.pos + o.n
                  · obtain ⟨mv, hmv⟩ : ∃ q, q = anM mk ((2 : Int) ^ k) := ⟨_, rfl⟩
                    have HMv := Lib.hid hmv
                    have HMn := Lib.hid (show mv = bitGo x.unit o.pos (o.pos + o.n) (k + 1) x.sl.mask by rw [bitGo_1 ⟨ha, hz⟩, ← HMk.out, hmv])
                    clear hmv
                    go_upto_region 11 with (first
                      | ((with_reducible show wpList _ _ _ (_ :: _) _ _); refine wpl_val rfl (.int .i64 ((2 : Int) ^ k)) (shl_runU rfl (by rfl) (by omega) _) ?_; simp only [Act.put, List.setIfInBounds_toArray, List.set_cons_zero, List.set_cons_succ])
                      | ((with_reducible show wpList _ _ _ (_ :: _) _ _); refine wpl_val rfl (.int .i64 mv) (by rw [HMv.out]; exact andNot_run rfl (by rfl) (by rfl) _) ?_; simp only [Act.put, List.setIfInBounds_toArray, List.set_cons_zero, List.set_cons_succ]))
                    obtain ⟨w3, hw3⟩ : ∃ v, v = wr.setCell ⟨wo.heap.size, 72, none⟩ (.int .i64 mv) := ⟨_, rfl⟩
                    have K3 := Lib.hid (show Blk w3 wo.heap.size 56 (itC (maskI x (bitGo x.unit o.pos (o.pos + o.n) (k + 1) x.sl.mask))).toArray by
                      have h2 := K2.out.put 72 (.int .i64 mv)
                      have h3 := put_mask (maskI x mk) mv
                      rw [maskI_two] at h3
                      rw [hw3, ← HMn.out]
                      exact h3 ▸ h2)
                    have L3 := Lib.hid (show Below wo.heap.size wo w3 by rw [hw3]; exact bl_g L2.out (grown_put _ ⟨wo.heap.size, 72, none⟩ _) (Nat.le_refl _))
                    rw [← hw3]
                    clear hw3 f1 cu2 cm2 ck cl
                    go_wp2_with fail
                    go_roundg (gk - 1)
                    case measure => omega
                    case rel => exact ⟨k + 1, by congr 1, by omega, by omega, by omega, K3.out, L3.out⟩
                  · have HMn := Lib.hid (show mk = bitGo x.unit o.pos (o.pos + o.n) (k + 1) x.sl.mask by rw [bitGo_2 (fun h => hz h.2), ← HMk.out])
                    go_wp2_with fail
                    go_roundg (gk - 1)
                    case measure => omega
                    case rel => exact ⟨k + 1, by congr 1, by omega, by omega, by omega, HMn.out ▸ K2.out, L2.out⟩
                · have HMn := Lib.hid (show mk = bitGo x.unit o.pos (o.pos + o.n) (k + 1) x.sl.mask by rw [bitGo_2 (fun h => ha h.1), ← HMk.out])
                  go_wp2_with fail
                  go_roundg (gk - 1)
                  case measure => omega
                  case rel => exact ⟨k + 1, by congr 1, by omega, by omega, by omega, HMn.out ▸ K2.out, L2.out⟩
              · have hkI : ¬ (k : Int) < 8 := by omega
                have hke : k = 8 := by omega
                have HX2 := Lib.hid (show disc1 o.pos (o.pos + o.n) x = if mk = 0 then none else some (maskI x mk) by rw [HX.out, HMk.out, hke])
                clear hke
                by_cases h0 : mk = 0
                · have b0 : (mk == 0) = true := beq_iff_eq.2 h0
                  have HF := Lib.hid (show r = (l.take (i + 1)).filterMap (disc1 o.pos (o.pos + o.n)) by
                    have h := HN.out
                    rw [HX2.out, if_pos h0] at h
                    have h2 : r = (l.take i).filterMap (disc1 o.pos (o.pos + o.n)) := HR.out
                    rw [h, ← h2]
                    simp)
                  clear h0
                  go_wp2_with fail
                  go_roundg (g0 - 1)
                  case measure => have h := HG.out; omega
                  case rel => have h := HG.out; exact ⟨i + 1, r, by congr 1, by omega, by omega, by omega, HF.out, by omega, own_belowR O.out L2.out, Lk.out⟩
                · have b0 : (mk == 0) = false := beq_eq_false_iff_ne.2 h0
                  obtain ⟨y, hy⟩ : ∃ y, y = maskI x mk := ⟨_, rfl⟩
                  have HF := Lib.hid (show r ++ [y] = (l.take (i + 1)).filterMap (disc1 o.pos (o.pos + o.n)) by
                    have h := HN.out
                    rw [HX2.out, if_neg h0] at h
                    have h2 : r = (l.take i).filterMap (disc1 o.pos (o.pos + o.n)) := HR.out
                    rw [h, ← h2, hy]
                    rfl)
                  obtain ⟨w3, hw3⟩ : ∃ v, v = wr := ⟨_, rfl⟩
                  have K3 := Lib.hid (show Blk w3 wo.heap.size 56 (itC y).toArray by rw [hw3, hy]; exact K2.out)
                  have L3 := Lib.hid (show Below wo.heap.size wo w3 by rw [hw3]; exact L2.out)
                  clear h0 hy
                  go_upto_region 16 with fail
                  rw [← hw3]
                  clear hw3 f1 cu2 cm2 ck cl
                  have R3 := Lib.hid (show w3.rangeAt wo.heap.size 0 (itC y) by have := K3.out.range; rwa [toArr] at this)
                  have O3 := Lib.hid (own_belowR O.out L3.out)
                  have LB3 := Lib.hid (below_chain LB.out L3.out)
                  have HFl := Lib.hid (show (r ++ [y]).length ≤ i + 1 by rw [List.length_append, List.length_singleton]; omega)
                  go_wp2_with (first
                    | ((with_reducible show wpList _ _ _ (_ :: _) _ _); refine wpList_load_mid rfl 56 (.tmp 8) (by rfl) wo.heap.size 0 (by rfl) (itC y) _ R3.out Tryz.underlying56 rfl (itC_info y) ?_; simp only [Act.put, List.setIfInBounds_toArray, List.set_cons_zero, List.set_cons_succ])
                    | ((with_reducible show wpList _ _ _ (_ :: _) _ _); refine wpl_lit_it rfl (.tmp 82) (by rfl) y (by rfl) ?_; intro w5 hk hg hz; have K5 := Lib.hid hk; have L5 := Lib.hid (bl_n LB3.out hg); have O5 := Lib.hid (own_belowR O3.out (bl_n (Below.refl _ w3) hg)); clear hk hg hz; simp only [Act.put, List.setIfInBounds_toArray, List.set_cons_zero, List.set_cons_succ])
                    | ((with_reducible show wpList _ _ _ (_ :: _) _ _); refine wpl_app_it rfl (.tmp 81) (.tmp 83) (by rfl) w1.heap.size u6 r (by rfl) O5.out _ y (by rfl) K5.out (by omega) L5.out.size ?_; intro v' w6 ho hg; have O6 := Lib.hid ho; have L6 := Lib.hid (L5.out.grown hg L5.out.size (fun k hk => (own_at O5.out k hk).1)); clear ho hg; simp only [Act.put, List.setIfInBounds_toArray, List.set_cons_zero, List.set_cons_succ]))
                  go_roundg (g0 - 1)
                  case measure => have h := HG.out; omega
                  case rel => have h := HG.out; exact ⟨i + 1, r ++ [y], by congr 1, by omega, by omega, by omega, HF.out, HFl.out, O6.out, L6.out⟩
          · have b2 : (x.snap == 0) = false := beq_eq_false_iff_ne.2 h3
            obtain ⟨y, hy⟩ : ∃ y, y = x := ⟨_, rfl⟩
            have HF := Lib.hid (show r ++ [y] = (l.take (i + 1)).filterMap (disc1 o.pos (o.pos + o.n)) by
              have h := HN.out
              rw [disc1_is, if_neg (fun h => h3 h.2)] at h
              have h2 : r = (l.take i).filterMap (disc1 o.pos (o.pos + o.n)) := HR.out
              rw [h, ← h2, hy]
              rfl)
            obtain ⟨w3, hw3⟩ : ∃ v, v = wb := ⟨_, rfl⟩
            have K3 := Lib.hid (show Blk w3 wo.heap.size 56 (itC y).toArray by rw [hw3, hy]; exact K2.out)
            have L3 := Lib.hid (show Below wo.heap.size wo w3 by rw [hw3]; exact L2.out)
            clear h2 h3 hy
            go_upto_region 16 with fail
            rw [← hw3]
            clear hw3 k0 k1
            have R3 := Lib.hid (show w3.rangeAt wo.heap.size 0 (itC y) by have := K3.out.range; rwa [toArr] at this)
            have O3 := Lib.hid (own_belowR O.out L3.out)
            have LB3 := Lib.hid (below_chain LB.out L3.out)
            have HFl := Lib.hid (show (r ++ [y]).length ≤ i + 1 by rw [List.length_append, List.length_singleton]; omega)
            go_wp2_with (first
              | ((with_reducible show wpList _ _ _ (_ :: _) _ _); refine wpList_load_mid rfl 56 (.tmp 8) (by rfl) wo.heap.size 0 (by rfl) (itC y) _ R3.out Tryz.underlying56 rfl (itC_info y) ?_; simp only [Act.put, List.setIfInBounds_toArray, List.set_cons_zero, List.set_cons_succ])
              | ((with_reducible show wpList _ _ _ (_ :: _) _ _); refine wpl_lit_it rfl (.tmp 82) (by rfl) y (by rfl) ?_; intro w5 hk hg hz; have K5 := Lib.hid hk; have L5 := Lib.hid (bl_n LB3.out hg); have O5 := Lib.hid (own_belowR O3.out (bl_n (Below.refl _ w3) hg)); clear hk hg hz; simp only [Act.put, List.setIfInBounds_toArray, List.set_cons_zero, List.set_cons_succ])
              | ((with_reducible show wpList _ _ _ (_ :: _) _ _); refine wpl_app_it rfl (.tmp 81) (.tmp 83) (by rfl) w1.heap.size u6 r (by rfl) O5.out _ y (by rfl) K5.out (by omega) L5.out.size ?_; intro v' w6 ho hg; have O6 := Lib.hid ho; have L6 := Lib.hid (L5.out.grown hg L5.out.size (fun k hk => (own_at O5.out k hk).1)); clear ho hg; simp only [Act.put, List.setIfInBounds_toArray, List.set_cons_zero, List.set_cons_succ]))
            go_roundg (g0 - 1)
            case measure => have h := HG.out; omega
            case rel => have h := HG.out; exact ⟨i + 1, r ++ [y], by congr 1, by omega, by omega, by omega, HF.out, HFl.out, O6.out, L6.out⟩
        · have b1 : (x.kind == 2) = false := beq_eq_false_iff_ne.2 h2
          obtain ⟨y, hy⟩ : ∃ y, y = x := ⟨_, rfl⟩
          have HF := Lib.hid (show r ++ [y] = (l.take (i + 1)).filterMap (disc1 o.pos (o.pos + o.n)) by
            have h := HN.out
            rw [disc1_is, if_neg (fun h => h2 h.1)] at h
            have h2 : r = (l.take i).filterMap (disc1 o.pos (o.pos + o.n)) := HR.out
            rw [h, ← h2, hy]
            rfl)
          obtain ⟨w3, hw3⟩ : ∃ v, v = wb := ⟨_, rfl⟩
          have K3 := Lib.hid (show Blk w3 wo.heap.size 56 (itC y).toArray by rw [hw3, hy]; exact K2.out)
          have L3 := Lib.hid (show Below wo.heap.size wo w3 by rw [hw3]; exact L2.out)
          clear h2 hy
          go_upto_region 16 with fail
          rw [← hw3]
          clear hw3 k0 k1
          have R3 := Lib.hid (show w3.rangeAt wo.heap.size 0 (itC y) by have := K3.out.range; rwa [toArr] at this)
          have O3 := Lib.hid (own_belowR O.out L3.out)
          have LB3 := Lib.hid (below_chain LB.out L3.out)
          have HFl := Lib.hid (show (r ++ [y]).length ≤ i + 1 by rw [List.length_append, List.length_singleton]; omega)
          go_wp2_with (first
            | ((with_reducible show wpList _ _ _ (_ :: _) _ _); refine wpList_load_mid rfl 56 (.tmp 8) (by rfl) wo.heap.size 0 (by rfl) (itC y) _ R3.out Tryz.underlying56 rfl (itC_info y) ?_; simp only [Act.put, List.setIfInBounds_toArray, List.set_cons_zero, List.set_cons_succ])
            | ((with_reducible show wpList _ _ _ (_ :: _) _ _); refine wpl_lit_it rfl (.tmp 82) (by rfl) y (by rfl) ?_; intro w5 hk hg hz; have K5 := Lib.hid hk; have L5 := Lib.hid (bl_n LB3.out hg); have O5 := Lib.hid (own_belowR O3.out (bl_n (Below.refl _ w3) hg)); clear hk hg hz; simp only [Act.put, List.setIfInBounds_toArray, List.set_cons_zero, List.set_cons_succ])
            | ((with_reducible show wpList _ _ _ (_ :: _) _ _); refine wpl_app_it rfl (.tmp 81) (.tmp 83) (by rfl) w1.heap.size u6 r (by rfl) O5.out _ y (by rfl) K5.out (by omega) L5.out.size ?_; intro v' w6 ho hg; have O6 := Lib.hid ho; have L6 := Lib.hid (L5.out.grown hg L5.out.size (fun k hk => (own_at O5.out k hk).1)); clear ho hg; simp only [Act.put, List.setIfInBounds_toArray, List.set_cons_zero, List.set_cons_succ]))
          go_roundg (g0 - 1)
          case measure => have h := HG.out; omega
          case rel => have h := HG.out; exact ⟨i + 1, r ++ [y], by congr 1, by omega, by omega, by omega, HF.out, HFl.out, O6.out, L6.out⟩
      · have hiI : ¬ (i : Int) < (m : Int) := by omega
        have HF := Lib.hid (show discL n l o = (r, 0) by
          have h2 : r = (l.take i).filterMap (disc1 o.pos (o.pos + o.n)) := HR.out
          rw [List.take_of_length_le (by rw [HLm.out]; omega)] at h2
          rw [HD.out, h2])
        go_wp2_with fail
        go_ret2
        refine ⟨_, by rw [HF.out]; rfl, fun _ => ?_, below_chain L1.out LB.out⟩
        rw [HF.out]
        exact ⟨own_loR O.out L1.out.size, by have := HLm.out; show r.length ≤ _; omega⟩
end Go.Proofs.YtgjjdfhoakailaaGreat
namespace Go.Proofs.YtgjjdfhoakailaaGreat
open Go.RowKit Go.Maps Go.Sort Go.Shelf
set_option linter.unusedVariables false
set_option linter.unusedSimpArgs false

def RDoPost (B xs n : Nat) (l : List It) (o : OpV) (w : World) (e : Ending) (w' : World) : Prop :=
  ∃ m' c' A', e = .returned (.int .i64 (doL n l o).2) ∧ RfIs w' B xs n m' c' A' (doL n l o).1 ∧ Tch [xs] w w'
theorem do_no {n : Nat} {l : List It} {o : OpV} (h : rightB o = false) : doL n l o = (l, 4) := by unfold doL; rw [h]; rfl
theorem do_bad {n : Nat} {l L : List It} {o : OpV} {r : Int} (h : rightB o = true) (hs : (stepL n l o).2 = r) (hr : r ≠ 0) : doL n l o = (l, r) := by unfold doL; rw [h, hs, if_pos rfl, if_neg hr]
theorem do_good {n : Nat} {l L : List It} {o : OpV} (h : rightB o = true) (hs : stepL n l o = (L, 0)) : doL n l o = (settledL L, 0) := by unfold doL; rw [h, hs]; rfl
theorem RDoPost.bad {w w' : World} {B xs n m c : Nat} {A : Option Addr} {l : List It} {o : OpV} {r : Int} (h : RfIs w B xs n m c A l) (hd : doL n l o = (l, r)) (hb : Below w.heap.size w w') : RDoPost B xs n l o w (.returned (.int .i64 r)) w' :=
  ⟨m, c, A, by rw [hd], by rw [hd]; exact h.below hb, Tch.below hb⟩
theorem RfIs.ne {w : World} {B xs n m c : Nat} {A : Option Addr} {l : List It} (h : RfIs w B xs n m c A l) {base k sz : Nat} {v : Value} {ys : List Value} (ho : w.ownsRow base 56 sz v k ys) : v.ownBlock ≠ some xs := own_blk ho h.blk (by decide)
section
variable {w : World} {B xs n m c : Nat} {A : Option Addr} {l : List It}
set_option maxRecDepth 100000 in
set_option maxHeartbeats 2000000 in
theorem rDo_no (h : RfIs w B xs n m c A l) {o : OpV} {A1 : Option Addr} {c1 : Nat} {B1 : Option Addr} {d1 : Nat} (ho : OpAt w o A1 c1 B1 d1) (hn : o.news.length ≤ 100000000) (hm : o.puts.length ≤ 100000000) (hr : rightB o = false) :
    Calls Tryz.prog 15 #[.pointer (some ⟨xs, 0, none⟩), .agg (opC o A1 c1 B1 d1).toArray] w (RDoPost B xs n l o w) := by
  have HS := Lib.hid h
  have H := Lib.hid ho
  have HRt := Lib.hid hr
  clear h ho hr
  go_enter Tryz.func15, Tryz.ntmps15
  go_upto_region 1 with (first
    | ((with_reducible show wpList _ _ _ (_ :: _) _ _); refine wpl_box rfl 35 (.tmp 1) (by rfl) (opC o A1 c1 B1 d1).toArray (by rfl) ?_; intro w0 hk hg hz; have K0 := Lib.hid hk; have L0 := Lib.hid (bl_n (Below.refl _ w) hg); clear hk hg hz; simp only [Act.put, List.setIfInBounds_toArray, List.set_cons_zero, List.set_cons_succ]))
  have R0 := Lib.hid (show w0.rangeAt w.heap.size 0 (opC o A1 c1 B1 d1) by have := K0.out.range; rwa [toArr] at this)
  have HO0 := Lib.hid (H.out.below L0.out)
  go_wp2_with
    (first
      | ((with_reducible show wpList _ _ _ (_ :: _) _ _); refine wpList_load_mid rfl 35 (.tmp 3) (by rfl) w.heap.size 0 (by rfl) (opC o A1 c1 B1 d1) _ R0.out Tryz.underlying35 rfl (opC_info o A1 c1 B1 d1) ?_; simp only [Act.put, List.setIfInBounds_toArray, List.set_cons_zero, List.set_cons_succ])
      | (go_at_call 50; refine (right25 HO0.out hn hm).mono ?_; rintro e w1 ⟨rfl, hb⟩; rewrite [HRt.out]; have L1 := Lib.hid (below_chain L0.out hb); have K1 := Lib.hid (K0.out.below hb K0.out.lt); clear hb))
  go_ret
  exact RDoPost.bad HS.out (do_no HRt.out) L1.out
set_option maxRecDepth 100000 in
set_option maxHeartbeats 4000000 in
theorem rDo_1 (h : RfIs w B xs n m c A l) (hmm : m ≤ 1000000) (hB : B ≤ w.heap.size) {o : OpV} {A1 : Option Addr} {c1 : Nat} {B1 : Option Addr} {d1 : Nat} (ho : OpAt w o A1 c1 B1 d1) (hn : o.news.length ≤ 100000000) (hm : o.puts.length ≤ 100000000) (hr : rightB o = true) (hk : o.kind = 1) :
    Calls Tryz.prog 15 #[.pointer (some ⟨xs, 0, none⟩), .agg (opC o A1 c1 B1 d1).toArray] w (RDoPost B xs n l o w) := by
  have HS := Lib.hid h
  have H := Lib.hid ho
  have HRt := Lib.hid hr
  have HBs := Lib.hid hB
  have hn512 := h.high
  have HWb := Lib.hid ((right_kind hr).2.1 hk)
  have HFc := Lib.hid (show (o.news.length ≤ 18 ∧ o.puts.length ≤ 18) ∧ ∀ p ∈ o.puts, 0 ≤ p.unit ∧ p.unit ≤ 511 by
    have h1 := HWb.out
    unfold writeB at h1
    simp only [Bool.and_eq_true, decide_eq_true_eq] at h1
    exact ⟨⟨h1.1.2, h1.2⟩, fun p hp => by have := (putsB_facts _ _ h1.1.1.2).1 p hp; omega⟩)
  have HSt0 := Lib.hid (show stepL n l o = writeL n l o by unfold stepL; rw [if_pos hk])
  have HLm := Lib.hid h.len
  have e1 : (o.kind == 1) = true := beq_iff_eq.2 hk
  clear h ho hr hB hk
  obtain ⟨r, hr⟩ : ∃ r, r = (writeL n l o).2 := ⟨_, rfl⟩
  have HR2 := Lib.hid hr
  clear hr
  obtain ⟨L, hL⟩ : ∃ r, r = (writeL n l o).1 := ⟨_, rfl⟩
  have HL := Lib.hid hL
  clear hL
  go_enter Tryz.func15, Tryz.ntmps15
  go_upto_region 1 with (first
    | ((with_reducible show wpList _ _ _ (_ :: _) _ _); refine wpl_box rfl 35 (.tmp 1) (by rfl) (opC o A1 c1 B1 d1).toArray (by rfl) ?_; intro w0 hk hg hz; have K0 := Lib.hid hk; have L0 := Lib.hid (bl_n (Below.refl _ w) hg); clear hk hg hz; simp only [Act.put, List.setIfInBounds_toArray, List.set_cons_zero, List.set_cons_succ]))
  have R0 := Lib.hid (show w0.rangeAt w.heap.size 0 (opC o A1 c1 B1 d1) by have := K0.out.range; rwa [toArr] at this)
  have HO0 := Lib.hid (H.out.below L0.out)
  go_upto_region 3 with
    (first
      | ((with_reducible show wpList _ _ _ (_ :: _) _ _); refine wpList_load_mid rfl 35 (.tmp 3) (by rfl) w.heap.size 0 (by rfl) (opC o A1 c1 B1 d1) _ R0.out Tryz.underlying35 rfl (opC_info o A1 c1 B1 d1) ?_; simp only [Act.put, List.setIfInBounds_toArray, List.set_cons_zero, List.set_cons_succ])
      | (go_at_call 50; refine (right25 HO0.out hn hm).mono ?_; rintro e w1 ⟨rfl, hb⟩; rewrite [HRt.out]; have L1 := Lib.hid (below_chain L0.out hb); have K1 := Lib.hid (K0.out.below hb K0.out.lt); clear hb))
  have S1 := Lib.hid (HS.out.below L1.out)
  have HO1 := Lib.hid (H.out.below L1.out)
  have R1 := Lib.hid (show w1.rangeAt w.heap.size 0 (opC o A1 c1 B1 d1) by have := K1.out.range; rwa [toArr] at this)
  have c0 := K1.out.cell (i := 0) (v := .int .u8 o.kind) rfl
  have c3 := K1.out.cell (i := 3) (v := .int .i64 o.snap) rfl
  have s1 := S1.out.c1
  clear R0 HO0 K0
  go_upto_region 29 with (first
    | ((with_reducible show wpList _ _ _ (_ :: _) _ _); refine wpList_load_mid rfl 35 (.tmp 3) (by rfl) w.heap.size 0 (by rfl) (opC o A1 c1 B1 d1) _ R1.out Tryz.underlying35 rfl (opC_info o A1 c1 B1 d1) ?_; simp only [Act.put, List.setIfInBounds_toArray, List.set_cons_zero, List.set_cons_succ])
    | (go_at_call 51; refine (rWrite_any S1.out hmm HO1.out HFc.out.1.1 HFc.out.1.2 HFc.out.2).mono ?_; rintro e w5 ⟨v5, rfl, ho, hb⟩; rewrite [← HR2.out]; have O5' := Lib.hid ho; have L5 := Lib.hid hb; clear ho hb))
  by_cases h0 : r = 0
  · have hO5 := O5'.out (by rw [← HR2.out]; exact h0)
    rw [← HL.out] at hO5
    have O5 := Lib.hid hO5.1
    have HLn := Lib.hid (show L.length ≤ 100000000 by have h1 := hO5.2; have h2 := HLm.out; omega)
    have HSt := Lib.hid (show stepL n l o = (L, 0) by rw [HSt0.out, HL.out, ← h0, HR2.out])
    clear hO5 O5'
    subst h0
    obtain ⟨A5, c5, hv5, _⟩ := own_slice O5.out
    subst hv5
    go_upto_region 31 with (first
      | (go_at_call 57; refine (rSettled_any (Src.of_own O5.out) rfl HLn.out).mono ?_; rintro e w6 ⟨v6, rfl, ho, hb⟩; obtain ⟨A7, c7, rfl, _⟩ := own_slice ho; have O6 := Lib.hid ho; have L6 := Lib.hid (below_chain L5.out hb); have S6 := Lib.hid (S1.out.below L6.out); have s1 := S6.out.c1; have f1 := S6.out.blk.free 1; clear ho hb))
    obtain ⟨w7, hw7⟩ : ∃ v, v = w6.setCell ⟨xs, 1, none⟩ (.slice A7 (settledL L).length c7) := ⟨_, rfl⟩
    rw [← hw7]
    have K7 := Lib.hid (show Blk w7 xs 80 #[.int .i64 (n : Int), .slice A7 (settledL L).length c7] by
      have h2 := S6.out.blk.put 1 (.slice A7 (settledL L).length c7)
      rw [hw7]
      exact h2)
    have hg7 : w6.grownBy w7 (some xs) := by rw [hw7]; exact grown_put _ ⟨xs, 1, none⟩ _
    have hne := S6.out.ne O6.out
    have O7 := Lib.hid (own_keptR O6.out hg7 (fun b hb hv => hne (by rw [hv, hb])))
    have T7 := Lib.hid (show Tch [xs] w w7 from (Tch.below (below_chain L1.out L6.out)).trans (Tch.grown hg7 (fun k hk => by injection hk with hk; subst hk; exact .inl (by simp))))
    clear hw7 s1 f1 hg7 hne
    go_wp2_with fail
    go_ret
    refine ⟨(settledL L).length, c7, A7, by rw [do_good HRt.out HSt.out]; rfl, ?_, T7.out⟩
    rw [do_good HRt.out HSt.out]
    exact ⟨K7.out, own_loR O7.out (by have h1 := HBs.out; have h2 := L1.out.size; have h3 := L5.out.size; omega), rfl, hn512⟩
  · have b0 : (r == 0) = false := beq_eq_false_iff_ne.2 h0
    have HF := Lib.hid (do_bad (L := L) HRt.out (by rw [HSt0.out, ← HR2.out]) h0)
    clear h0 O5'
    go_wp2_with fail
    go_ret
    exact RDoPost.bad HS.out HF.out (below_chain L1.out L5.out)
set_option maxRecDepth 100000 in
set_option maxHeartbeats 4000000 in
theorem rDo_2 (h : RfIs w B xs n m c A l) (hmm : m ≤ 1000000) (hB : B ≤ w.heap.size) (hu : ∀ x ∈ l, 0 ≤ x.unit ∧ x.unit ≤ 511) {o : OpV} {A1 : Option Addr} {c1 : Nat} {B1 : Option Addr} {d1 : Nat} (ho : OpAt w o A1 c1 B1 d1) (hn : o.news.length ≤ 100000000) (hm : o.puts.length ≤ 100000000) (hr : rightB o = true) (hk : o.kind = 2) :
    Calls Tryz.prog 15 #[.pointer (some ⟨xs, 0, none⟩), .agg (opC o A1 c1 B1 d1).toArray] w (RDoPost B xs n l o w) := by
  have HS := Lib.hid h
  have H := Lib.hid ho
  have HRt := Lib.hid hr
  have HBs := Lib.hid hB
  have HU := Lib.hid hu
  have hn512 := h.high
  have HFc := Lib.hid (show (0 ≤ o.pos ∧ o.pos ≤ 4096) ∧ 0 ≤ o.n ∧ o.n ≤ 4096 by
    have h1 := hr
    unfold rightB inB at h1
    rw [if_neg (by omega), if_pos hk] at h1
    simp only [Bool.and_eq_true, decide_eq_true_eq] at h1
    exact ⟨h1.1.2, h1.2⟩)
  have HSt0 := Lib.hid (show stepL n l o = discL n l o by unfold stepL; rw [if_neg (by omega), if_pos hk])
  have HLm := Lib.hid h.len
  have e1 : (o.kind == 1) = false := beq_eq_false_iff_ne.2 (by omega)
  have e2 : (o.kind == 2) = true := beq_iff_eq.2 hk
  clear h ho hr hB hk hu
  obtain ⟨r, hr⟩ : ∃ r, r = (discL n l o).2 := ⟨_, rfl⟩
  have HR2 := Lib.hid hr
  clear hr
  obtain ⟨L, hL⟩ : ∃ r, r = (discL n l o).1 := ⟨_, rfl⟩
  have HL := Lib.hid hL
  clear hL
  go_enter Tryz.func15, Tryz.ntmps15
  go_upto_region 1 with (first
    | ((with_reducible show wpList _ _ _ (_ :: _) _ _); refine wpl_box rfl 35 (.tmp 1) (by rfl) (opC o A1 c1 B1 d1).toArray (by rfl) ?_; intro w0 hk hg hz; have K0 := Lib.hid hk; have L0 := Lib.hid (bl_n (Below.refl _ w) hg); clear hk hg hz; simp only [Act.put, List.setIfInBounds_toArray, List.set_cons_zero, List.set_cons_succ]))
  have R0 := Lib.hid (show w0.rangeAt w.heap.size 0 (opC o A1 c1 B1 d1) by have := K0.out.range; rwa [toArr] at this)
  have HO0 := Lib.hid (H.out.below L0.out)
  go_upto_region 3 with
    (first
      | ((with_reducible show wpList _ _ _ (_ :: _) _ _); refine wpList_load_mid rfl 35 (.tmp 3) (by rfl) w.heap.size 0 (by rfl) (opC o A1 c1 B1 d1) _ R0.out Tryz.underlying35 rfl (opC_info o A1 c1 B1 d1) ?_; simp only [Act.put, List.setIfInBounds_toArray, List.set_cons_zero, List.set_cons_succ])
      | (go_at_call 50; refine (right25 HO0.out hn hm).mono ?_; rintro e w1 ⟨rfl, hb⟩; rewrite [HRt.out]; have L1 := Lib.hid (below_chain L0.out hb); have K1 := Lib.hid (K0.out.below hb K0.out.lt); clear hb))
  have S1 := Lib.hid (HS.out.below L1.out)
  have HO1 := Lib.hid (H.out.below L1.out)
  have R1 := Lib.hid (show w1.rangeAt w.heap.size 0 (opC o A1 c1 B1 d1) by have := K1.out.range; rwa [toArr] at this)
  have c0 := K1.out.cell (i := 0) (v := .int .u8 o.kind) rfl
  have c3 := K1.out.cell (i := 3) (v := .int .i64 o.snap) rfl
  have s1 := S1.out.c1
  clear R0 HO0 K0
  go_upto_region 29 with (first
    | ((with_reducible show wpList _ _ _ (_ :: _) _ _); refine wpList_load_mid rfl 35 (.tmp 3) (by rfl) w.heap.size 0 (by rfl) (opC o A1 c1 B1 d1) _ R1.out Tryz.underlying35 rfl (opC_info o A1 c1 B1 d1) ?_; simp only [Act.put, List.setIfInBounds_toArray, List.set_cons_zero, List.set_cons_succ])
    | (go_at_call 52; refine (rDiscard_any S1.out hmm o A1 c1 B1 d1 HFc.out.1 HFc.out.2 HU.out).mono ?_; rintro e w5 ⟨v5, rfl, ho, hb⟩; rewrite [← HR2.out]; have O5' := Lib.hid ho; have L5 := Lib.hid hb; clear ho hb))
  by_cases h0 : r = 0
  · have hO5 := O5'.out (by rw [← HR2.out]; exact h0)
    rw [← HL.out] at hO5
    have O5 := Lib.hid hO5.1
    have HLn := Lib.hid (show L.length ≤ 100000000 by have h1 := hO5.2; have h2 := HLm.out; omega)
    have HSt := Lib.hid (show stepL n l o = (L, 0) by rw [HSt0.out, HL.out, ← h0, HR2.out])
    clear hO5 O5'
    subst h0
    obtain ⟨A5, c5, hv5, _⟩ := own_slice O5.out
    subst hv5
    go_upto_region 31 with (first
      | (go_at_call 57; refine (rSettled_any (Src.of_own O5.out) rfl HLn.out).mono ?_; rintro e w6 ⟨v6, rfl, ho, hb⟩; obtain ⟨A7, c7, rfl, _⟩ := own_slice ho; have O6 := Lib.hid ho; have L6 := Lib.hid (below_chain L5.out hb); have S6 := Lib.hid (S1.out.below L6.out); have s1 := S6.out.c1; have f1 := S6.out.blk.free 1; clear ho hb))
    obtain ⟨w7, hw7⟩ : ∃ v, v = w6.setCell ⟨xs, 1, none⟩ (.slice A7 (settledL L).length c7) := ⟨_, rfl⟩
    rw [← hw7]
    have K7 := Lib.hid (show Blk w7 xs 80 #[.int .i64 (n : Int), .slice A7 (settledL L).length c7] by
      have h2 := S6.out.blk.put 1 (.slice A7 (settledL L).length c7)
      rw [hw7]
      exact h2)
    have hg7 : w6.grownBy w7 (some xs) := by rw [hw7]; exact grown_put _ ⟨xs, 1, none⟩ _
    have hne := S6.out.ne O6.out
    have O7 := Lib.hid (own_keptR O6.out hg7 (fun b hb hv => hne (by rw [hv, hb])))
    have T7 := Lib.hid (show Tch [xs] w w7 from (Tch.below (below_chain L1.out L6.out)).trans (Tch.grown hg7 (fun k hk => by injection hk with hk; subst hk; exact .inl (by simp))))
    clear hw7 s1 f1 hg7 hne
    go_wp2_with fail
    go_ret
    refine ⟨(settledL L).length, c7, A7, by rw [do_good HRt.out HSt.out]; rfl, ?_, T7.out⟩
    rw [do_good HRt.out HSt.out]
    exact ⟨K7.out, own_loR O7.out (by have h1 := HBs.out; have h2 := L1.out.size; have h3 := L5.out.size; omega), rfl, hn512⟩
  · have b0 : (r == 0) = false := beq_eq_false_iff_ne.2 h0
    have HF := Lib.hid (do_bad (L := L) HRt.out (by rw [HSt0.out, ← HR2.out]) h0)
    clear h0 O5'
    go_wp2_with fail
    go_ret
    exact RDoPost.bad HS.out HF.out (below_chain L1.out L5.out)
end
end Go.Proofs.YtgjjdfhoakailaaGreat
namespace Go.Proofs.YtgjjdfhoakailaaGreat
open Go.RowKit Go.Maps Go.Sort Go.Shelf
set_option linter.unusedVariables false
set_option linter.unusedSimpArgs false
section
variable {w : World} {B xs n m c : Nat} {A : Option Addr} {l : List It}
set_option maxRecDepth 100000 in
set_option maxHeartbeats 4000000 in
theorem rDo_3 (h : RfIs w B xs n m c A l) (hmm : m ≤ 1000000) (hB : B ≤ w.heap.size) {o : OpV} {A1 : Option Addr} {c1 : Nat} {B1 : Option Addr} {d1 : Nat} (ho : OpAt w o A1 c1 B1 d1) (hn : o.news.length ≤ 100000000) (hm : o.puts.length ≤ 100000000) (hr : rightB o = true) (hk : o.kind = 3) :
    Calls Tryz.prog 15 #[.pointer (some ⟨xs, 0, none⟩), .agg (opC o A1 c1 B1 d1).toArray] w (RDoPost B xs n l o w) := by
  have HS := Lib.hid h
  have H := Lib.hid ho
  have HRt := Lib.hid hr
  have HBs := Lib.hid hB
  have hn512 := h.high
  have HLm := Lib.hid h.len
  obtain ⟨sb, hsb⟩ : ∃ b, b = snapB l o.snap := ⟨_, rfl⟩
  obtain ⟨p, hp⟩ : ∃ b, b = snapsN l := ⟨_, rfl⟩
  have HSb := Lib.hid hsb
  have HP := Lib.hid hp
  have HSt0 := Lib.hid (show stepL n l o = (if sb then (l, 7) else if 8 ≤ p then (l, 14) else (l ++ copiedL l 0 o.snap ++ [snI o.snap], 0)) by unfold stepL; rw [if_neg (by omega), if_neg (by omega), if_pos hk, ← hsb, ← hp])
  have e1 : (o.kind == 1) = false := beq_eq_false_iff_ne.2 (by omega)
  have e2 : (o.kind == 2) = false := beq_eq_false_iff_ne.2 (by omega)
  have e3 : (o.kind == 3) = true := beq_iff_eq.2 hk
  clear h ho hr hB hk hsb hp
  go_enter Tryz.func15, Tryz.ntmps15
  go_upto_region 1 with (first
    | ((with_reducible show wpList _ _ _ (_ :: _) _ _); refine wpl_box rfl 35 (.tmp 1) (by rfl) (opC o A1 c1 B1 d1).toArray (by rfl) ?_; intro w0 hk hg hz; have K0 := Lib.hid hk; have L0 := Lib.hid (bl_n (Below.refl _ w) hg); clear hk hg hz; simp only [Act.put, List.setIfInBounds_toArray, List.set_cons_zero, List.set_cons_succ]))
  have R0 := Lib.hid (show w0.rangeAt w.heap.size 0 (opC o A1 c1 B1 d1) by have := K0.out.range; rwa [toArr] at this)
  have HO0 := Lib.hid (H.out.below L0.out)
  go_upto_region 3 with (first
    | ((with_reducible show wpList _ _ _ (_ :: _) _ _); refine wpList_load_mid rfl 35 (.tmp 3) (by rfl) w.heap.size 0 (by rfl) (opC o A1 c1 B1 d1) _ R0.out Tryz.underlying35 rfl (opC_info o A1 c1 B1 d1) ?_; simp only [Act.put, List.setIfInBounds_toArray, List.set_cons_zero, List.set_cons_succ])
    | (go_at_call 50; refine (right25 HO0.out hn hm).mono ?_; rintro e w1 ⟨rfl, hb⟩; rewrite [HRt.out]; have L1 := Lib.hid (below_chain L0.out hb); have K1 := Lib.hid (K0.out.below hb K0.out.lt); clear hb))
  have S1 := Lib.hid (HS.out.below L1.out)
  have HO1 := Lib.hid (H.out.below L1.out)
  have c0 := K1.out.cell (i := 0) (v := .int .u8 o.kind) rfl
  have c3 := K1.out.cell (i := 3) (v := .int .i64 o.snap) rfl
  have s1 := S1.out.c1
  have GD := Lib.hid (show ∀ W, Below w1.heap.size w1 W → W.cell? ⟨xs, 1, none⟩ = some (.slice A m c) ∧ W.cell? ⟨w.heap.size, 3, none⟩ = some (.int .i64 o.snap) from fun W hW => ⟨(S1.out.below hW).c1, (K1.out.below hW K1.out.lt).cell rfl⟩)
  clear R0 HO0 K0
  go_upto_region 14 with fail
  cases sb
  case true =>
    refine wp_region_qs (fun _ w' => w'.cell? ⟨xs, 1, none⟩ = some (.slice A m c) ∧ w'.cell? ⟨w.heap.size, 3, none⟩ = some (.int .i64 o.snap)) [(0, some 1), (1, some 1), (2, some 1), (3, some 0), (4, some 1), (5, some 0), (6, none)] (by kernel_rfl) (by kernel_rfl) (by kernel_rfl) (by kernel_rfl) (by kernel_rfl) (fun _ _ _ _ _ h => h) (GD.out _ (Below.refl _ _).drew) ?_
    simp only [List.map_cons, List.map_nil, List.getD_cons_succ, List.getD_cons_zero]
    (repeat (first | (refine qs_now (v := ?_) (by rfl) ?_ ?_; rotate_left 1; (· (intro w' hS; go_simp; (try (simp only [↓IntWalk.iteOmega]; go_simp)); (try simp (disch := omega) only [IntWalk.i64_in]); try with_reducible rfl)); simp only [Act.put, List.setIfInBounds_toArray, List.set_cons_zero, List.set_cons_succ]) | (refine qs_run (v := ?_) (by rfl) ?_ ?_; rotate_left 1; (· (intro j w' hS; go_simp; (try (simp only [↓IntWalk.iteOmega]; go_simp)); (try simp (disch := omega) only [IntWalk.i64_in]); try with_reducible rfl)); simp only [Act.put, List.setIfInBounds_toArray, List.set_cons_zero, List.set_cons_succ]) | (refine qs_mid (v := ?_) (by rfl) ?_ ?_; rotate_left 1; (· (intro j w' hj1 hj2 hS; go_simp; (try (simp only [↓IntWalk.iteOmega]; go_simp)); (try simp (disch := omega) only [IntWalk.i64_in]); try with_reducible rfl)); simp only [Act.put, List.setIfInBounds_toArray, List.set_cons_zero, List.set_cons_succ]) | (refine qs_skip (by rfl) ?_; simp only [Act.put, List.setIfInBounds_toArray, List.set_cons_zero, List.set_cons_succ])))
    refine qs_act ?_
    go_wp2_with (go_at_call 53; refine (rSnap_any (S1.out.below (Below.refl _ _).drew).src S1.out.len (by omega) o.snap).mono ?_; rintro e w2 ⟨rfl, hb⟩; rewrite [← HSb.out]; have L2 := Lib.hid (below_chain (Below.refl _ w1).drew hb); clear hb)
    refine ⟨GD.out _ L2.out, ?_⟩
    (repeat (first | (refine qs_now (v := ?_) (by rfl) ?_ ?_; rotate_left 1; (· (intro w' hS; go_simp; (try (simp only [↓IntWalk.iteOmega]; go_simp)); (try simp (disch := omega) only [IntWalk.i64_in]); try with_reducible rfl)); simp only [Act.put, List.setIfInBounds_toArray, List.set_cons_zero, List.set_cons_succ]) | (refine qs_run (v := ?_) (by rfl) ?_ ?_; rotate_left 1; (· (intro j w' hS; go_simp; (try (simp only [↓IntWalk.iteOmega]; go_simp)); (try simp (disch := omega) only [IntWalk.i64_in]); try with_reducible rfl)); simp only [Act.put, List.setIfInBounds_toArray, List.set_cons_zero, List.set_cons_succ]) | (refine qs_mid (v := ?_) (by rfl) ?_ ?_; rotate_left 1; (· (intro j w' hj1 hj2 hS; go_simp; (try (simp only [↓IntWalk.iteOmega]; go_simp)); (try simp (disch := omega) only [IntWalk.i64_in]); try with_reducible rfl)); simp only [Act.put, List.setIfInBounds_toArray, List.set_cons_zero, List.set_cons_succ]) | (refine qs_skip (by rfl) ?_; simp only [Act.put, List.setIfInBounds_toArray, List.set_cons_zero, List.set_cons_succ])))
    refine qs_nil ?_
    clear c0 c3 s1
    have S2 := Lib.hid (S1.out.below L2.out)
    have s1 := S2.out.c1
    have c3 := (GD.out _ L2.out).2
    have HF := Lib.hid (do_bad (L := l) HRt.out (show (stepL n l o).2 = 7 by rw [HSt0.out]; rfl) (by decide))
    go_wp2_with fail
    go_ret
    exact RDoPost.bad HS.out HF.out (below_chain L1.out L2.out)
  case false =>
    refine wp_region_qs (fun _ w' => w'.cell? ⟨xs, 1, none⟩ = some (.slice A m c) ∧ w'.cell? ⟨w.heap.size, 3, none⟩ = some (.int .i64 o.snap)) [(0, some 1), (1, some 1), (2, some 1), (3, some 0), (4, some 1), (5, some 0), (6, none)] (by kernel_rfl) (by kernel_rfl) (by kernel_rfl) (by kernel_rfl) (by kernel_rfl) (fun _ _ _ _ _ h => h) (GD.out _ (Below.refl _ _).drew) ?_
    simp only [List.map_cons, List.map_nil, List.getD_cons_succ, List.getD_cons_zero]
    (repeat (first | (refine qs_now (v := ?_) (by rfl) ?_ ?_; rotate_left 1; (· (intro w' hS; go_simp; (try (simp only [↓IntWalk.iteOmega]; go_simp)); (try simp (disch := omega) only [IntWalk.i64_in]); try with_reducible rfl)); simp only [Act.put, List.setIfInBounds_toArray, List.set_cons_zero, List.set_cons_succ]) | (refine qs_run (v := ?_) (by rfl) ?_ ?_; rotate_left 1; (· (intro j w' hS; go_simp; (try (simp only [↓IntWalk.iteOmega]; go_simp)); (try simp (disch := omega) only [IntWalk.i64_in]); try with_reducible rfl)); simp only [Act.put, List.setIfInBounds_toArray, List.set_cons_zero, List.set_cons_succ]) | (refine qs_mid (v := ?_) (by rfl) ?_ ?_; rotate_left 1; (· (intro j w' hj1 hj2 hS; go_simp; (try (simp only [↓IntWalk.iteOmega]; go_simp)); (try simp (disch := omega) only [IntWalk.i64_in]); try with_reducible rfl)); simp only [Act.put, List.setIfInBounds_toArray, List.set_cons_zero, List.set_cons_succ]) | (refine qs_skip (by rfl) ?_; simp only [Act.put, List.setIfInBounds_toArray, List.set_cons_zero, List.set_cons_succ])))
    refine qs_act ?_
    go_wp2_with (go_at_call 53; refine (rSnap_any (S1.out.below (Below.refl _ _).drew).src S1.out.len (by omega) o.snap).mono ?_; rintro e w2 ⟨rfl, hb⟩; rewrite [← HSb.out]; have L2 := Lib.hid (below_chain (Below.refl _ w1).drew hb); clear hb)
    refine ⟨GD.out _ L2.out, ?_⟩
    (repeat (first | (refine qs_now (v := ?_) (by rfl) ?_ ?_; rotate_left 1; (· (intro w' hS; go_simp; (try (simp only [↓IntWalk.iteOmega]; go_simp)); (try simp (disch := omega) only [IntWalk.i64_in]); try with_reducible rfl)); simp only [Act.put, List.setIfInBounds_toArray, List.set_cons_zero, List.set_cons_succ]) | (refine qs_run (v := ?_) (by rfl) ?_ ?_; rotate_left 1; (· (intro j w' hS; go_simp; (try (simp only [↓IntWalk.iteOmega]; go_simp)); (try simp (disch := omega) only [IntWalk.i64_in]); try with_reducible rfl)); simp only [Act.put, List.setIfInBounds_toArray, List.set_cons_zero, List.set_cons_succ]) | (refine qs_mid (v := ?_) (by rfl) ?_ ?_; rotate_left 1; (· (intro j w' hj1 hj2 hS; go_simp; (try (simp only [↓IntWalk.iteOmega]; go_simp)); (try simp (disch := omega) only [IntWalk.i64_in]); try with_reducible rfl)); simp only [Act.put, List.setIfInBounds_toArray, List.set_cons_zero, List.set_cons_succ]) | (refine qs_skip (by rfl) ?_; simp only [Act.put, List.setIfInBounds_toArray, List.set_cons_zero, List.set_cons_succ])))
    refine qs_nil ?_
    clear c0 c3 s1
    have S2 := Lib.hid (S1.out.below L2.out)
    have s1 := S2.out.c1
    have c3 := (GD.out _ L2.out).2
    by_cases h8 : 8 ≤ p
    · have h8I : 8 ≤ (p : Int) := by omega
      have HF := Lib.hid (do_bad (L := l) HRt.out (show (stepL n l o).2 = 14 by rw [HSt0.out, if_neg (by decide), if_pos h8]) (by decide))
      go_wp2_with (first
        | (go_at_call 54; refine (rSnaps_any S2.out.src S2.out.len (by omega)).mono ?_; rintro e w3 ⟨rfl, hb⟩; rewrite [← HP.out]; have L3 := Lib.hid (below_chain L2.out hb); clear hb))
      go_ret
      exact RDoPost.bad HS.out HF.out (below_chain L1.out L3.out)
    · have h8I : ¬ 8 ≤ (p : Int) := by omega
      obtain ⟨L, hL⟩ : ∃ L, L = l ++ copiedL l 0 o.snap ++ [snI o.snap] := ⟨_, rfl⟩
      have HSt := Lib.hid (show stepL n l o = (L, 0) by rw [HSt0.out, if_neg (by decide), if_neg h8, hL])
      have HL := Lib.hid hL
      clear hL
      have HCl := Lib.hid (show (copiedL l 0 o.snap).length ≤ 1000000 by
        unfold copiedL
        rw [List.length_map]
        have h1 := List.length_filter_le (fun i : It => i.kind == 2 && decide (i.snap = 0)) l
        have h2 := HLm.out
        omega)
      have hcl := HCl.out
      have hlm := HLm.out
      have HLn := Lib.hid (show L.length ≤ 100000000 by rw [HL.out, List.length_append, List.length_append, List.length_singleton]; omega)
      go_upto_region 18 with (first
        | (go_at_call 54; refine (rSnaps_any S2.out.src S2.out.len (by omega)).mono ?_; rintro e w3 ⟨rfl, hb⟩; rewrite [← HP.out]; have L3 := Lib.hid (below_chain L2.out hb); clear hb))
      clear s1 c3 hlm
      refine wp_region_qs (fun _ w' => w'.cell? ⟨xs, 1, none⟩ = some (.slice A m c) ∧ w'.cell? ⟨w.heap.size, 3, none⟩ = some (.int .i64 o.snap)) [(1, some 4), (2, some 4), (3, some 4), (4, some 3), (6, some 4), (7, some 4), (8, some 4), (9, some 3), (10, some 4), (11, some 3), (0, none), (5, none), (12, none), (13, none), (14, some 4)] (by kernel_rfl) (by kernel_rfl) (by kernel_rfl) (by kernel_rfl) (by kernel_rfl) (fun _ _ _ _ _ h => h) (GD.out _ L3.out.drew) ?_
      simp only [List.map_cons, List.map_nil, List.getD_cons_succ, List.getD_cons_zero]
      (repeat (first | (refine qs_now (v := ?_) (by rfl) ?_ ?_; rotate_left 1; (· (intro w' hS; go_simp; (try (simp only [↓IntWalk.iteOmega]; go_simp)); (try simp (disch := omega) only [IntWalk.i64_in]); try with_reducible rfl)); simp only [Act.put, List.setIfInBounds_toArray, List.set_cons_zero, List.set_cons_succ]) | (refine qs_run (v := ?_) (by rfl) ?_ ?_; rotate_left 1; (· (intro j w' hS; go_simp; (try (simp only [↓IntWalk.iteOmega]; go_simp)); (try simp (disch := omega) only [IntWalk.i64_in]); try with_reducible rfl)); simp only [Act.put, List.setIfInBounds_toArray, List.set_cons_zero, List.set_cons_succ]) | (refine qs_mid (v := ?_) (by rfl) ?_ ?_; rotate_left 1; (· (intro j w' hj1 hj2 hS; go_simp; (try (simp only [↓IntWalk.iteOmega]; go_simp)); (try simp (disch := omega) only [IntWalk.i64_in]); try with_reducible rfl)); simp only [Act.put, List.setIfInBounds_toArray, List.set_cons_zero, List.set_cons_succ]) | (refine qs_skip (by rfl) ?_; simp only [Act.put, List.setIfInBounds_toArray, List.set_cons_zero, List.set_cons_succ])))
      refine qs_act ?_
      go_wp2_with ((with_reducible show wpList _ _ _ (_ :: _) _ _); refine wpl_lit0 rfl 41 56 (by rfl) Tryz.underlying41 info_It w1.heap.size L3.out.drew.size ?_; intro v4 w4 ho hg; have O4 := Lib.hid ho; have L4 := Lib.hid (bl_n L3.out.drew hg); clear ho hg; simp only [Act.put, List.setIfInBounds_toArray, List.set_cons_zero, List.set_cons_succ])
      refine ⟨GD.out _ L4.out, ?_⟩
      (repeat (first | (refine qs_now (v := ?_) (by rfl) ?_ ?_; rotate_left 1; (· (intro w' hS; go_simp; (try (simp only [↓IntWalk.iteOmega]; go_simp)); (try simp (disch := omega) only [IntWalk.i64_in]); try with_reducible rfl)); simp only [Act.put, List.setIfInBounds_toArray, List.set_cons_zero, List.set_cons_succ]) | (refine qs_run (v := ?_) (by rfl) ?_ ?_; rotate_left 1; (· (intro j w' hS; go_simp; (try (simp only [↓IntWalk.iteOmega]; go_simp)); (try simp (disch := omega) only [IntWalk.i64_in]); try with_reducible rfl)); simp only [Act.put, List.setIfInBounds_toArray, List.set_cons_zero, List.set_cons_succ]) | (refine qs_mid (v := ?_) (by rfl) ?_ ?_; rotate_left 1; (· (intro j w' hj1 hj2 hS; go_simp; (try (simp only [↓IntWalk.iteOmega]; go_simp)); (try simp (disch := omega) only [IntWalk.i64_in]); try with_reducible rfl)); simp only [Act.put, List.setIfInBounds_toArray, List.set_cons_zero, List.set_cons_succ]) | (refine qs_skip (by rfl) ?_; simp only [Act.put, List.setIfInBounds_toArray, List.set_cons_zero, List.set_cons_succ])))
      refine qs_act ?_
      go_wp2_with ((with_reducible show wpList _ _ _ (_ :: _) _ _); refine wpl_app_its rfl (.tmp 66) (.tmp 70) (by rfl) w1.heap.size v4 [] (by rfl) O4.out _ l (by rfl) (by have := (S1.out.below L4.out).src; rw [HLm.out]; exact this) (by have := HLm.out; simp; omega) L4.out.size ?_; intro v5 w5 ho hg; have O5 := Lib.hid (show w5.ownsRow w1.heap.size 56 73 v5 l.length (itsC l) from ho); have L5 := Lib.hid (L4.out.grown hg L4.out.size (fun k hk => (own_at O4.out k hk).1)); clear ho hg; simp only [Act.put, List.setIfInBounds_toArray, List.set_cons_zero, List.set_cons_succ])
      refine ⟨GD.out _ L5.out, ?_⟩
      (repeat (first | (refine qs_now (v := ?_) (by rfl) ?_ ?_; rotate_left 1; (· (intro w' hS; go_simp; (try (simp only [↓IntWalk.iteOmega]; go_simp)); (try simp (disch := omega) only [IntWalk.i64_in]); try with_reducible rfl)); simp only [Act.put, List.setIfInBounds_toArray, List.set_cons_zero, List.set_cons_succ]) | (refine qs_run (v := ?_) (by rfl) ?_ ?_; rotate_left 1; (· (intro j w' hS; go_simp; (try (simp only [↓IntWalk.iteOmega]; go_simp)); (try simp (disch := omega) only [IntWalk.i64_in]); try with_reducible rfl)); simp only [Act.put, List.setIfInBounds_toArray, List.set_cons_zero, List.set_cons_succ]) | (refine qs_mid (v := ?_) (by rfl) ?_ ?_; rotate_left 1; (· (intro j w' hj1 hj2 hS; go_simp; (try (simp only [↓IntWalk.iteOmega]; go_simp)); (try simp (disch := omega) only [IntWalk.i64_in]); try with_reducible rfl)); simp only [Act.put, List.setIfInBounds_toArray, List.set_cons_zero, List.set_cons_succ]) | (refine qs_skip (by rfl) ?_; simp only [Act.put, List.setIfInBounds_toArray, List.set_cons_zero, List.set_cons_succ])))
      refine qs_act ?_
      go_wp2_with (go_at_call 55; refine (rCopied_any (S1.out.below L5.out).src S1.out.len (by omega) 0 o.snap).mono ?_; rintro e w6 ⟨v6, rfl, ho, hb⟩; have OC := Lib.hid ho; have O6 := Lib.hid (own_belowR O5.out hb); have L6 := Lib.hid (below_chain L5.out hb); clear ho hb)
      refine ⟨GD.out _ L6.out, ?_⟩
      (repeat (first | (refine qs_now (v := ?_) (by rfl) ?_ ?_; rotate_left 1; (· (intro w' hS; go_simp; (try (simp only [↓IntWalk.iteOmega]; go_simp)); (try simp (disch := omega) only [IntWalk.i64_in]); try with_reducible rfl)); simp only [Act.put, List.setIfInBounds_toArray, List.set_cons_zero, List.set_cons_succ]) | (refine qs_run (v := ?_) (by rfl) ?_ ?_; rotate_left 1; (· (intro j w' hS; go_simp; (try (simp only [↓IntWalk.iteOmega]; go_simp)); (try simp (disch := omega) only [IntWalk.i64_in]); try with_reducible rfl)); simp only [Act.put, List.setIfInBounds_toArray, List.set_cons_zero, List.set_cons_succ]) | (refine qs_mid (v := ?_) (by rfl) ?_ ?_; rotate_left 1; (· (intro j w' hj1 hj2 hS; go_simp; (try (simp only [↓IntWalk.iteOmega]; go_simp)); (try simp (disch := omega) only [IntWalk.i64_in]); try with_reducible rfl)); simp only [Act.put, List.setIfInBounds_toArray, List.set_cons_zero, List.set_cons_succ]) | (refine qs_skip (by rfl) ?_; simp only [Act.put, List.setIfInBounds_toArray, List.set_cons_zero, List.set_cons_succ])))
      refine qs_act ?_
      go_wp2_with ((with_reducible show wpList _ _ _ (_ :: _) _ _); refine wpl_app_its rfl (.tmp 71) (.tmp 78) (by rfl) w1.heap.size v5 l (by rfl) O6.out _ (copiedL l 0 o.snap) (by rfl) (Src.of_own OC.out) (by have := HLm.out; have := HCl.out; omega) L6.out.size ?_; intro v7 w7 ho hg; have O7 := Lib.hid ho; have L7 := Lib.hid (L6.out.grown hg L6.out.size (fun k hk => (own_at O6.out k hk).1)); clear ho hg; simp only [Act.put, List.setIfInBounds_toArray, List.set_cons_zero, List.set_cons_succ])
      refine ⟨GD.out _ L7.out, ?_⟩
      (repeat (first | (refine qs_now (v := ?_) (by rfl) ?_ ?_; rotate_left 1; (· (intro w' hS; go_simp; (try (simp only [↓IntWalk.iteOmega]; go_simp)); (try simp (disch := omega) only [IntWalk.i64_in]); try with_reducible rfl)); simp only [Act.put, List.setIfInBounds_toArray, List.set_cons_zero, List.set_cons_succ]) | (refine qs_run (v := ?_) (by rfl) ?_ ?_; rotate_left 1; (· (intro j w' hS; go_simp; (try (simp only [↓IntWalk.iteOmega]; go_simp)); (try simp (disch := omega) only [IntWalk.i64_in]); try with_reducible rfl)); simp only [Act.put, List.setIfInBounds_toArray, List.set_cons_zero, List.set_cons_succ]) | (refine qs_mid (v := ?_) (by rfl) ?_ ?_; rotate_left 1; (· (intro j w' hj1 hj2 hS; go_simp; (try (simp only [↓IntWalk.iteOmega]; go_simp)); (try simp (disch := omega) only [IntWalk.i64_in]); try with_reducible rfl)); simp only [Act.put, List.setIfInBounds_toArray, List.set_cons_zero, List.set_cons_succ]) | (refine qs_skip (by rfl) ?_; simp only [Act.put, List.setIfInBounds_toArray, List.set_cons_zero, List.set_cons_succ])))
      refine qs_nil ?_
      clear O4 O5 L4 L5 O6 OC L6
      have c3 := (GD.out _ L7.out).2
      have HAl := Lib.hid (show (l ++ copiedL l 0 o.snap).length ≤ 1000000000 by rw [List.length_append]; have := HLm.out; omega)
      go_upto_region 29 with (first
        | ((with_reducible show wpList _ _ _ (_ :: _) _ _); refine wpl_mk rfl 56 #[(0, .const (.int .u8 3)), (3, .tmp 82)] (by rfl) [(0, .int .u8 3), (3, .int .i64 o.snap)] (by rfl) _ (built_sn o.snap) ?_; simp only [Act.put, List.setIfInBounds_toArray, List.set_cons_zero, List.set_cons_succ])
        | ((with_reducible show wpList _ _ _ (_ :: _) _ _); refine wpl_lit_it rfl (.tmp 83) (by rfl) (snI o.snap) (by rfl) ?_; intro w8 hk hg hz; have K8 := Lib.hid hk; have L8 := Lib.hid (bl_n L7.out hg); have O8 := Lib.hid (own_belowR O7.out (bl_n (Below.refl _ w7) hg)); clear hk hg hz; simp only [Act.put, List.setIfInBounds_toArray, List.set_cons_zero, List.set_cons_succ])
        | ((with_reducible show wpList _ _ _ (_ :: _) _ _); refine wpl_app_it rfl (.tmp 80) (.tmp 84) (by rfl) w1.heap.size v7 (l ++ copiedL l 0 o.snap) (by rfl) O8.out _ (snI o.snap) (by rfl) K8.out HAl.out L8.out.size ?_; intro v9 w9 ho hg; have O5 := Lib.hid ho; have L5 := Lib.hid (L8.out.grown hg L8.out.size (fun k hk => (own_at O8.out k hk).1)); clear ho hg; simp only [Act.put, List.setIfInBounds_toArray, List.set_cons_zero, List.set_cons_succ]))
      clear O7 L7 O8 K8 L8 c3
      have O5 := Lib.hid (show w9.ownsRow w1.heap.size 56 73 v9 L.length (itsC L) by rw [HL.out]; exact O5.out)
      obtain ⟨A5, c5, hv5, _⟩ := own_slice O5.out
      subst hv5
      go_upto_region 31 with (first
        | (go_at_call 57; refine (rSettled_any (Src.of_own O5.out) rfl HLn.out).mono ?_; rintro e w6 ⟨v6, rfl, ho, hb⟩; obtain ⟨A7, c7, rfl, _⟩ := own_slice ho; have O6 := Lib.hid ho; have L6 := Lib.hid (below_chain L5.out hb); have S6 := Lib.hid (S1.out.below L6.out); have s1 := S6.out.c1; have f1 := S6.out.blk.free 1; clear ho hb))
      obtain ⟨w7, hw7⟩ : ∃ v, v = w6.setCell ⟨xs, 1, none⟩ (.slice A7 (settledL L).length c7) := ⟨_, rfl⟩
      rw [← hw7]
      have K7 := Lib.hid (show Blk w7 xs 80 #[.int .i64 (n : Int), .slice A7 (settledL L).length c7] by
        have h2 := S6.out.blk.put 1 (.slice A7 (settledL L).length c7)
        rw [hw7]
        exact h2)
      have hg7 : w6.grownBy w7 (some xs) := by rw [hw7]; exact grown_put _ ⟨xs, 1, none⟩ _
      have hne := S6.out.ne O6.out
      have O7 := Lib.hid (own_keptR O6.out hg7 (fun b hb hv => hne (by rw [hv, hb])))
      have T7 := Lib.hid (show Tch [xs] w w7 from (Tch.below (below_chain L1.out L6.out)).trans (Tch.grown hg7 (fun k hk => by injection hk with hk; subst hk; exact .inl (by simp))))
      clear hw7 s1 f1 hg7 hne
      go_wp2_with fail
      go_ret
      refine ⟨(settledL L).length, c7, A7, by rw [do_good HRt.out HSt.out]; rfl, ?_, T7.out⟩
      rw [do_good HRt.out HSt.out]
      exact ⟨K7.out, own_loR O7.out (by have h1 := HBs.out; have h2 := L1.out.size; have h3 := L5.out.size; omega), rfl, hn512⟩
set_option maxRecDepth 100000 in
set_option maxHeartbeats 4000000 in
theorem rDo_5 (h : RfIs w B xs n m c A l) (hmm : m ≤ 1000000) (hB : B ≤ w.heap.size) {o : OpV} {A1 : Option Addr} {c1 : Nat} {B1 : Option Addr} {d1 : Nat} (ho : OpAt w o A1 c1 B1 d1) (hn : o.news.length ≤ 100000000) (hm : o.puts.length ≤ 100000000) (hr : rightB o = true) (hk : o.kind = 5) :
    Calls Tryz.prog 15 #[.pointer (some ⟨xs, 0, none⟩), .agg (opC o A1 c1 B1 d1).toArray] w (RDoPost B xs n l o w) := by
  have HS := Lib.hid h
  have H := Lib.hid ho
  have HRt := Lib.hid hr
  have HBs := Lib.hid hB
  have hn512 := h.high
  have HLm := Lib.hid h.len
  obtain ⟨sb, hsb⟩ : ∃ b, b = snapB l o.snap := ⟨_, rfl⟩
  have HSb := Lib.hid hsb
  have HSt0 := Lib.hid (show stepL n l o = (if sb then (withoutL l 0 0 512 ++ copiedL l o.snap 0, 0) else (l, 13)) by unfold stepL; rw [if_neg (by omega), if_neg (by omega), if_neg (by omega), if_neg (by omega), ← hsb])
  have e1 : (o.kind == 1) = false := beq_eq_false_iff_ne.2 (by omega)
  have e2 : (o.kind == 2) = false := beq_eq_false_iff_ne.2 (by omega)
  have e3 : (o.kind == 3) = false := beq_eq_false_iff_ne.2 (by omega)
  have e4 : (o.kind == 4) = false := beq_eq_false_iff_ne.2 (by omega)
  clear h ho hr hB hk hsb
  go_enter Tryz.func15, Tryz.ntmps15
  go_upto_region 1 with (first
    | ((with_reducible show wpList _ _ _ (_ :: _) _ _); refine wpl_box rfl 35 (.tmp 1) (by rfl) (opC o A1 c1 B1 d1).toArray (by rfl) ?_; intro w0 hk hg hz; have K0 := Lib.hid hk; have L0 := Lib.hid (bl_n (Below.refl _ w) hg); clear hk hg hz; simp only [Act.put, List.setIfInBounds_toArray, List.set_cons_zero, List.set_cons_succ]))
  have R0 := Lib.hid (show w0.rangeAt w.heap.size 0 (opC o A1 c1 B1 d1) by have := K0.out.range; rwa [toArr] at this)
  have HO0 := Lib.hid (H.out.below L0.out)
  go_upto_region 3 with (first
    | ((with_reducible show wpList _ _ _ (_ :: _) _ _); refine wpList_load_mid rfl 35 (.tmp 3) (by rfl) w.heap.size 0 (by rfl) (opC o A1 c1 B1 d1) _ R0.out Tryz.underlying35 rfl (opC_info o A1 c1 B1 d1) ?_; simp only [Act.put, List.setIfInBounds_toArray, List.set_cons_zero, List.set_cons_succ])
    | (go_at_call 50; refine (right25 HO0.out hn hm).mono ?_; rintro e w1 ⟨rfl, hb⟩; rewrite [HRt.out]; have L1 := Lib.hid (below_chain L0.out hb); have K1 := Lib.hid (K0.out.below hb K0.out.lt); clear hb))
  have S1 := Lib.hid (HS.out.below L1.out)
  have HO1 := Lib.hid (H.out.below L1.out)
  have c0 := K1.out.cell (i := 0) (v := .int .u8 o.kind) rfl
  have c3 := K1.out.cell (i := 3) (v := .int .i64 o.snap) rfl
  have s1 := S1.out.c1
  have GD := Lib.hid (show ∀ W, Below w1.heap.size w1 W → W.cell? ⟨xs, 1, none⟩ = some (.slice A m c) ∧ W.cell? ⟨w.heap.size, 3, none⟩ = some (.int .i64 o.snap) from fun W hW => ⟨(S1.out.below hW).c1, (K1.out.below hW K1.out.lt).cell rfl⟩)
  clear R0 HO0 K0
  go_upto_region 6 with fail
  cases sb
  case false =>
    refine wp_region_qs (fun _ w' => w'.cell? ⟨xs, 1, none⟩ = some (.slice A m c) ∧ w'.cell? ⟨w.heap.size, 3, none⟩ = some (.int .i64 o.snap)) [(0, some 1), (1, some 1), (2, some 1), (3, some 0), (4, some 1), (5, some 0), (6, none), (7, some 1)] (by kernel_rfl) (by kernel_rfl) (by kernel_rfl) (by kernel_rfl) (by kernel_rfl) (fun _ _ _ _ _ h => h) (GD.out _ (Below.refl _ _).drew) ?_
    simp only [List.map_cons, List.map_nil, List.getD_cons_succ, List.getD_cons_zero]
    (repeat (first | (refine qs_now (v := ?_) (by rfl) ?_ ?_; rotate_left 1; (· (intro w' hS; go_simp; (try (simp only [↓IntWalk.iteOmega]; go_simp)); (try simp (disch := omega) only [IntWalk.i64_in]); try with_reducible rfl)); simp only [Act.put, List.setIfInBounds_toArray, List.set_cons_zero, List.set_cons_succ]) | (refine qs_run (v := ?_) (by rfl) ?_ ?_; rotate_left 1; (· (intro j w' hS; go_simp; (try (simp only [↓IntWalk.iteOmega]; go_simp)); (try simp (disch := omega) only [IntWalk.i64_in]); try with_reducible rfl)); simp only [Act.put, List.setIfInBounds_toArray, List.set_cons_zero, List.set_cons_succ]) | (refine qs_mid (v := ?_) (by rfl) ?_ ?_; rotate_left 1; (· (intro j w' hj1 hj2 hS; go_simp; (try (simp only [↓IntWalk.iteOmega]; go_simp)); (try simp (disch := omega) only [IntWalk.i64_in]); try with_reducible rfl)); simp only [Act.put, List.setIfInBounds_toArray, List.set_cons_zero, List.set_cons_succ]) | (refine qs_skip (by rfl) ?_; simp only [Act.put, List.setIfInBounds_toArray, List.set_cons_zero, List.set_cons_succ])))
    refine qs_act ?_
    go_wp2_with (go_at_call 53; refine (rSnap_any (S1.out.below (Below.refl _ _).drew).src S1.out.len (by omega) o.snap).mono ?_; rintro e w2 ⟨rfl, hb⟩; rewrite [← HSb.out]; have L2 := Lib.hid (below_chain (Below.refl _ w1).drew hb); clear hb)
    refine ⟨GD.out _ L2.out, ?_⟩
    (repeat (first | (refine qs_now (v := ?_) (by rfl) ?_ ?_; rotate_left 1; (· (intro w' hS; go_simp; (try (simp only [↓IntWalk.iteOmega]; go_simp)); (try simp (disch := omega) only [IntWalk.i64_in]); try with_reducible rfl)); simp only [Act.put, List.setIfInBounds_toArray, List.set_cons_zero, List.set_cons_succ]) | (refine qs_run (v := ?_) (by rfl) ?_ ?_; rotate_left 1; (· (intro j w' hS; go_simp; (try (simp only [↓IntWalk.iteOmega]; go_simp)); (try simp (disch := omega) only [IntWalk.i64_in]); try with_reducible rfl)); simp only [Act.put, List.setIfInBounds_toArray, List.set_cons_zero, List.set_cons_succ]) | (refine qs_mid (v := ?_) (by rfl) ?_ ?_; rotate_left 1; (· (intro j w' hj1 hj2 hS; go_simp; (try (simp only [↓IntWalk.iteOmega]; go_simp)); (try simp (disch := omega) only [IntWalk.i64_in]); try with_reducible rfl)); simp only [Act.put, List.setIfInBounds_toArray, List.set_cons_zero, List.set_cons_succ]) | (refine qs_skip (by rfl) ?_; simp only [Act.put, List.setIfInBounds_toArray, List.set_cons_zero, List.set_cons_succ])))
    refine qs_nil ?_
    clear c0 c3 s1
    have S2 := Lib.hid (S1.out.below L2.out)
    have s1 := S2.out.c1
    have c3 := (GD.out _ L2.out).2
    have HF := Lib.hid (do_bad (L := l) HRt.out (show (stepL n l o).2 = 13 by rw [HSt0.out]; rfl) (by decide))
    go_wp2_with fail
    go_ret
    exact RDoPost.bad HS.out HF.out (below_chain L1.out L2.out)
  case true =>
    refine wp_region_qs (fun _ w' => w'.cell? ⟨xs, 1, none⟩ = some (.slice A m c) ∧ w'.cell? ⟨w.heap.size, 3, none⟩ = some (.int .i64 o.snap)) [(0, some 1), (1, some 1), (2, some 1), (3, some 0), (4, some 1), (5, some 0), (6, none), (7, some 1)] (by kernel_rfl) (by kernel_rfl) (by kernel_rfl) (by kernel_rfl) (by kernel_rfl) (fun _ _ _ _ _ h => h) (GD.out _ (Below.refl _ _).drew) ?_
    simp only [List.map_cons, List.map_nil, List.getD_cons_succ, List.getD_cons_zero]
    (repeat (first | (refine qs_now (v := ?_) (by rfl) ?_ ?_; rotate_left 1; (· (intro w' hS; go_simp; (try (simp only [↓IntWalk.iteOmega]; go_simp)); (try simp (disch := omega) only [IntWalk.i64_in]); try with_reducible rfl)); simp only [Act.put, List.setIfInBounds_toArray, List.set_cons_zero, List.set_cons_succ]) | (refine qs_run (v := ?_) (by rfl) ?_ ?_; rotate_left 1; (· (intro j w' hS; go_simp; (try (simp only [↓IntWalk.iteOmega]; go_simp)); (try simp (disch := omega) only [IntWalk.i64_in]); try with_reducible rfl)); simp only [Act.put, List.setIfInBounds_toArray, List.set_cons_zero, List.set_cons_succ]) | (refine qs_mid (v := ?_) (by rfl) ?_ ?_; rotate_left 1; (· (intro j w' hj1 hj2 hS; go_simp; (try (simp only [↓IntWalk.iteOmega]; go_simp)); (try simp (disch := omega) only [IntWalk.i64_in]); try with_reducible rfl)); simp only [Act.put, List.setIfInBounds_toArray, List.set_cons_zero, List.set_cons_succ]) | (refine qs_skip (by rfl) ?_; simp only [Act.put, List.setIfInBounds_toArray, List.set_cons_zero, List.set_cons_succ])))
    refine qs_act ?_
    go_wp2_with (go_at_call 53; refine (rSnap_any (S1.out.below (Below.refl _ _).drew).src S1.out.len (by omega) o.snap).mono ?_; rintro e w2 ⟨rfl, hb⟩; rewrite [← HSb.out]; have L2 := Lib.hid (below_chain (Below.refl _ w1).drew hb); clear hb)
    refine ⟨GD.out _ L2.out, ?_⟩
    (repeat (first | (refine qs_now (v := ?_) (by rfl) ?_ ?_; rotate_left 1; (· (intro w' hS; go_simp; (try (simp only [↓IntWalk.iteOmega]; go_simp)); (try simp (disch := omega) only [IntWalk.i64_in]); try with_reducible rfl)); simp only [Act.put, List.setIfInBounds_toArray, List.set_cons_zero, List.set_cons_succ]) | (refine qs_run (v := ?_) (by rfl) ?_ ?_; rotate_left 1; (· (intro j w' hS; go_simp; (try (simp only [↓IntWalk.iteOmega]; go_simp)); (try simp (disch := omega) only [IntWalk.i64_in]); try with_reducible rfl)); simp only [Act.put, List.setIfInBounds_toArray, List.set_cons_zero, List.set_cons_succ]) | (refine qs_mid (v := ?_) (by rfl) ?_ ?_; rotate_left 1; (· (intro j w' hj1 hj2 hS; go_simp; (try (simp only [↓IntWalk.iteOmega]; go_simp)); (try simp (disch := omega) only [IntWalk.i64_in]); try with_reducible rfl)); simp only [Act.put, List.setIfInBounds_toArray, List.set_cons_zero, List.set_cons_succ]) | (refine qs_skip (by rfl) ?_; simp only [Act.put, List.setIfInBounds_toArray, List.set_cons_zero, List.set_cons_succ])))
    refine qs_nil ?_
    clear c0 c3 s1
    have S2 := Lib.hid (S1.out.below L2.out)
    have s1 := S2.out.c1
    have c3 := (GD.out _ L2.out).2
    obtain ⟨L, hL⟩ : ∃ L, L = withoutL l 0 0 512 ++ copiedL l o.snap 0 := ⟨_, rfl⟩
    have HSt := Lib.hid (show stepL n l o = (L, 0) by rw [HSt0.out, if_pos trivial, hL])
    have HL := Lib.hid hL
    clear hL
    have HCl := Lib.hid (show (copiedL l o.snap 0).length ≤ 1000000 ∧ (withoutL l 0 0 512).length ≤ 1000000 by
      unfold copiedL withoutL
      rw [List.length_map]
      have h1 := List.length_filter_le (fun i : It => i.kind == 2 && decide (i.snap = o.snap)) l
      have h3 := List.length_filter_le (outB 0 0 512) l
      have h2 := HLm.out
      omega)
    have HLn := Lib.hid (show L.length ≤ 100000000 by rw [HL.out, List.length_append]; have := HCl.out; omega)
    clear s1 c3
    go_upto_region 8 with fail
    refine wp_region_qs (fun _ w' => w'.cell? ⟨xs, 1, none⟩ = some (.slice A m c) ∧ w'.cell? ⟨w.heap.size, 3, none⟩ = some (.int .i64 o.snap)) [(0, some 3), (1, some 3), (2, some 3), (3, some 2), (5, some 3), (6, some 3), (7, some 3), (8, some 2), (9, some 3), (10, some 2), (4, none), (11, none), (12, none), (13, some 3)] (by kernel_rfl) (by kernel_rfl) (by kernel_rfl) (by kernel_rfl) (by kernel_rfl) (fun _ _ _ _ _ h => h) (GD.out _ L2.out.drew) ?_
    simp only [List.map_cons, List.map_nil, List.getD_cons_succ, List.getD_cons_zero]
    (repeat (first | (refine qs_now (v := ?_) (by rfl) ?_ ?_; rotate_left 1; (· (intro w' hS; go_simp; (try (simp only [↓IntWalk.iteOmega]; go_simp)); (try simp (disch := omega) only [IntWalk.i64_in]); try with_reducible rfl)); simp only [Act.put, List.setIfInBounds_toArray, List.set_cons_zero, List.set_cons_succ]) | (refine qs_run (v := ?_) (by rfl) ?_ ?_; rotate_left 1; (· (intro j w' hS; go_simp; (try (simp only [↓IntWalk.iteOmega]; go_simp)); (try simp (disch := omega) only [IntWalk.i64_in]); try with_reducible rfl)); simp only [Act.put, List.setIfInBounds_toArray, List.set_cons_zero, List.set_cons_succ]) | (refine qs_mid (v := ?_) (by rfl) ?_ ?_; rotate_left 1; (· (intro j w' hj1 hj2 hS; go_simp; (try (simp only [↓IntWalk.iteOmega]; go_simp)); (try simp (disch := omega) only [IntWalk.i64_in]); try with_reducible rfl)); simp only [Act.put, List.setIfInBounds_toArray, List.set_cons_zero, List.set_cons_succ]) | (refine qs_skip (by rfl) ?_; simp only [Act.put, List.setIfInBounds_toArray, List.set_cons_zero, List.set_cons_succ])))
    refine qs_act ?_
    go_wp2_with (go_at_call 56; refine (rWithout_any (S1.out.below L2.out.drew).src S1.out.len (by omega) 0 0 512).mono ?_; rintro e w4 ⟨v4, rfl, ho, hb⟩; have O4 := Lib.hid (own_loR ho L2.out.drew.size); have L4 := Lib.hid (below_chain L2.out.drew hb); clear ho hb)
    refine ⟨GD.out _ L4.out, ?_⟩
    (repeat (first | (refine qs_now (v := ?_) (by rfl) ?_ ?_; rotate_left 1; (· (intro w' hS; go_simp; (try (simp only [↓IntWalk.iteOmega]; go_simp)); (try simp (disch := omega) only [IntWalk.i64_in]); try with_reducible rfl)); simp only [Act.put, List.setIfInBounds_toArray, List.set_cons_zero, List.set_cons_succ]) | (refine qs_run (v := ?_) (by rfl) ?_ ?_; rotate_left 1; (· (intro j w' hS; go_simp; (try (simp only [↓IntWalk.iteOmega]; go_simp)); (try simp (disch := omega) only [IntWalk.i64_in]); try with_reducible rfl)); simp only [Act.put, List.setIfInBounds_toArray, List.set_cons_zero, List.set_cons_succ]) | (refine qs_mid (v := ?_) (by rfl) ?_ ?_; rotate_left 1; (· (intro j w' hj1 hj2 hS; go_simp; (try (simp only [↓IntWalk.iteOmega]; go_simp)); (try simp (disch := omega) only [IntWalk.i64_in]); try with_reducible rfl)); simp only [Act.put, List.setIfInBounds_toArray, List.set_cons_zero, List.set_cons_succ]) | (refine qs_skip (by rfl) ?_; simp only [Act.put, List.setIfInBounds_toArray, List.set_cons_zero, List.set_cons_succ])))
    refine qs_act ?_
    go_wp2_with (go_at_call 55; refine (rCopied_any (S1.out.below L4.out).src S1.out.len (by omega) o.snap 0).mono ?_; rintro e w6 ⟨v6, rfl, ho, hb⟩; have OC := Lib.hid ho; have O6 := Lib.hid (own_belowR O4.out hb); have L6 := Lib.hid (below_chain L4.out hb); clear ho hb)
    refine ⟨GD.out _ L6.out, ?_⟩
    (repeat (first | (refine qs_now (v := ?_) (by rfl) ?_ ?_; rotate_left 1; (· (intro w' hS; go_simp; (try (simp only [↓IntWalk.iteOmega]; go_simp)); (try simp (disch := omega) only [IntWalk.i64_in]); try with_reducible rfl)); simp only [Act.put, List.setIfInBounds_toArray, List.set_cons_zero, List.set_cons_succ]) | (refine qs_run (v := ?_) (by rfl) ?_ ?_; rotate_left 1; (· (intro j w' hS; go_simp; (try (simp only [↓IntWalk.iteOmega]; go_simp)); (try simp (disch := omega) only [IntWalk.i64_in]); try with_reducible rfl)); simp only [Act.put, List.setIfInBounds_toArray, List.set_cons_zero, List.set_cons_succ]) | (refine qs_mid (v := ?_) (by rfl) ?_ ?_; rotate_left 1; (· (intro j w' hj1 hj2 hS; go_simp; (try (simp only [↓IntWalk.iteOmega]; go_simp)); (try simp (disch := omega) only [IntWalk.i64_in]); try with_reducible rfl)); simp only [Act.put, List.setIfInBounds_toArray, List.set_cons_zero, List.set_cons_succ]) | (refine qs_skip (by rfl) ?_; simp only [Act.put, List.setIfInBounds_toArray, List.set_cons_zero, List.set_cons_succ])))
    refine qs_act ?_
    go_wp2_with ((with_reducible show wpList _ _ _ (_ :: _) _ _); refine wpl_app_its rfl (.tmp 26) (.tmp 33) (by rfl) w1.heap.size v4 (withoutL l 0 0 512) (by rfl) O6.out _ (copiedL l o.snap 0) (by rfl) (Src.of_own OC.out) (by have := HCl.out; omega) L6.out.size ?_; intro v7 w7 ho hg; have O5 := Lib.hid ho; have L5 := Lib.hid (L6.out.grown hg L6.out.size (fun k hk => (own_at O6.out k hk).1)); clear ho hg; simp only [Act.put, List.setIfInBounds_toArray, List.set_cons_zero, List.set_cons_succ])
    refine ⟨GD.out _ L5.out, ?_⟩
    (repeat (first | (refine qs_now (v := ?_) (by rfl) ?_ ?_; rotate_left 1; (· (intro w' hS; go_simp; (try (simp only [↓IntWalk.iteOmega]; go_simp)); (try simp (disch := omega) only [IntWalk.i64_in]); try with_reducible rfl)); simp only [Act.put, List.setIfInBounds_toArray, List.set_cons_zero, List.set_cons_succ]) | (refine qs_run (v := ?_) (by rfl) ?_ ?_; rotate_left 1; (· (intro j w' hS; go_simp; (try (simp only [↓IntWalk.iteOmega]; go_simp)); (try simp (disch := omega) only [IntWalk.i64_in]); try with_reducible rfl)); simp only [Act.put, List.setIfInBounds_toArray, List.set_cons_zero, List.set_cons_succ]) | (refine qs_mid (v := ?_) (by rfl) ?_ ?_; rotate_left 1; (· (intro j w' hj1 hj2 hS; go_simp; (try (simp only [↓IntWalk.iteOmega]; go_simp)); (try simp (disch := omega) only [IntWalk.i64_in]); try with_reducible rfl)); simp only [Act.put, List.setIfInBounds_toArray, List.set_cons_zero, List.set_cons_succ]) | (refine qs_skip (by rfl) ?_; simp only [Act.put, List.setIfInBounds_toArray, List.set_cons_zero, List.set_cons_succ])))
    refine qs_nil ?_
    clear O4 L4 O6 OC L6
    have O5 := Lib.hid (show w7.ownsRow w1.heap.size 56 73 v7 L.length (itsC L) by rw [HL.out]; exact O5.out)
    go_upto_region 29 with fail
    obtain ⟨A5, c5, hv5, _⟩ := own_slice O5.out
    subst hv5
    go_upto_region 31 with (first
      | (go_at_call 57; refine (rSettled_any (Src.of_own O5.out) rfl HLn.out).mono ?_; rintro e w6 ⟨v6, rfl, ho, hb⟩; obtain ⟨A7, c7, rfl, _⟩ := own_slice ho; have O6 := Lib.hid ho; have L6 := Lib.hid (below_chain L5.out hb); have S6 := Lib.hid (S1.out.below L6.out); have s1 := S6.out.c1; have f1 := S6.out.blk.free 1; clear ho hb))
    obtain ⟨w7, hw7⟩ : ∃ v, v = w6.setCell ⟨xs, 1, none⟩ (.slice A7 (settledL L).length c7) := ⟨_, rfl⟩
    rw [← hw7]
    have K7 := Lib.hid (show Blk w7 xs 80 #[.int .i64 (n : Int), .slice A7 (settledL L).length c7] by
      have h2 := S6.out.blk.put 1 (.slice A7 (settledL L).length c7)
      rw [hw7]
      exact h2)
    have hg7 : w6.grownBy w7 (some xs) := by rw [hw7]; exact grown_put _ ⟨xs, 1, none⟩ _
    have hne := S6.out.ne O6.out
    have O7 := Lib.hid (own_keptR O6.out hg7 (fun b hb hv => hne (by rw [hv, hb])))
    have T7 := Lib.hid (show Tch [xs] w w7 from (Tch.below (below_chain L1.out L6.out)).trans (Tch.grown hg7 (fun k hk => by injection hk with hk; subst hk; exact .inl (by simp))))
    clear hw7 s1 f1 hg7 hne
    go_wp2_with fail
    go_ret
    refine ⟨(settledL L).length, c7, A7, by rw [do_good HRt.out HSt.out]; rfl, ?_, T7.out⟩
    rw [do_good HRt.out HSt.out]
    exact ⟨K7.out, own_loR O7.out (by have h1 := HBs.out; have h2 := L1.out.size; have h3 := L5.out.size; omega), rfl, hn512⟩
theorem fil_take {p : It → Bool} {l : List It} {i : Nat} (hi : i < l.length) : (l.take (i + 1)).filter p = (l.take i).filter p ++ if p l[i] then [l[i]] else [] := by
  rw [List.take_succ_eq_append_getElem hi, List.filter_append]
  congr 1
  cases h : p l[i] <;> simp [h]
def delP (id : Int) (i : It) : Bool := i.kind != 3 || !decide (i.snap = id)
set_option maxRecDepth 100000 in
set_option maxHeartbeats 4000000 in
theorem rDo_4 (h : RfIs w B xs n m c A l) (hmm : m ≤ 1000000) (hB : B ≤ w.heap.size) {o : OpV} {A1 : Option Addr} {c1 : Nat} {B1 : Option Addr} {d1 : Nat} (ho : OpAt w o A1 c1 B1 d1) (hn : o.news.length ≤ 100000000) (hm : o.puts.length ≤ 100000000) (hr : rightB o = true) (hk : o.kind = 4) :
    Calls Tryz.prog 15 #[.pointer (some ⟨xs, 0, none⟩), .agg (opC o A1 c1 B1 d1).toArray] w (RDoPost B xs n l o w) := by
  have HS := Lib.hid h
  have H := Lib.hid ho
  have HRt := Lib.hid hr
  have HBs := Lib.hid hB
  have hn512 := h.high
  have HLm := Lib.hid h.len
  obtain ⟨sb, hsb⟩ : ∃ b, b = snapB l o.snap := ⟨_, rfl⟩
  have HSb := Lib.hid hsb
  have HSt0 := Lib.hid (show stepL n l o = (if sb then ((withoutL l o.snap 0 512).filter (delP o.snap), 0) else (l, 13)) by unfold stepL; rw [if_neg (by omega), if_neg (by omega), if_neg (by omega), if_pos hk, ← hsb]; rfl)
  have e1 : (o.kind == 1) = false := beq_eq_false_iff_ne.2 (by omega)
  have e2 : (o.kind == 2) = false := beq_eq_false_iff_ne.2 (by omega)
  have e3 : (o.kind == 3) = false := beq_eq_false_iff_ne.2 (by omega)
  have e4 : (o.kind == 4) = true := beq_iff_eq.2 hk
  clear h ho hr hB hk hsb
  go_enter Tryz.func15, Tryz.ntmps15
  go_upto_region 1 with (first
    | ((with_reducible show wpList _ _ _ (_ :: _) _ _); refine wpl_box rfl 35 (.tmp 1) (by rfl) (opC o A1 c1 B1 d1).toArray (by rfl) ?_; intro w0 hk hg hz; have K0 := Lib.hid hk; have L0 := Lib.hid (bl_n (Below.refl _ w) hg); clear hk hg hz; simp only [Act.put, List.setIfInBounds_toArray, List.set_cons_zero, List.set_cons_succ]))
  have R0 := Lib.hid (show w0.rangeAt w.heap.size 0 (opC o A1 c1 B1 d1) by have := K0.out.range; rwa [toArr] at this)
  have HO0 := Lib.hid (H.out.below L0.out)
  go_upto_region 3 with (first
    | ((with_reducible show wpList _ _ _ (_ :: _) _ _); refine wpList_load_mid rfl 35 (.tmp 3) (by rfl) w.heap.size 0 (by rfl) (opC o A1 c1 B1 d1) _ R0.out Tryz.underlying35 rfl (opC_info o A1 c1 B1 d1) ?_; simp only [Act.put, List.setIfInBounds_toArray, List.set_cons_zero, List.set_cons_succ])
    | (go_at_call 50; refine (right25 HO0.out hn hm).mono ?_; rintro e w1 ⟨rfl, hb⟩; rewrite [HRt.out]; have L1 := Lib.hid (below_chain L0.out hb); have K1 := Lib.hid (K0.out.below hb K0.out.lt); clear hb))
  have S1 := Lib.hid (HS.out.below L1.out)
  have HO1 := Lib.hid (H.out.below L1.out)
  have c0 := K1.out.cell (i := 0) (v := .int .u8 o.kind) rfl
  have c3 := K1.out.cell (i := 3) (v := .int .i64 o.snap) rfl
  have s1 := S1.out.c1
  have GD := Lib.hid (show ∀ W, Below w1.heap.size w1 W → W.cell? ⟨xs, 1, none⟩ = some (.slice A m c) ∧ W.cell? ⟨w.heap.size, 3, none⟩ = some (.int .i64 o.snap) from fun W hW => ⟨(S1.out.below hW).c1, (K1.out.below hW K1.out.lt).cell rfl⟩)
  clear R0 HO0 K0
  go_upto_region 21 with fail
  cases sb
  case false =>
    refine wp_region_qs (fun _ w' => w'.cell? ⟨xs, 1, none⟩ = some (.slice A m c) ∧ w'.cell? ⟨w.heap.size, 3, none⟩ = some (.int .i64 o.snap)) [(0, some 1), (1, some 1), (2, some 1), (3, some 0), (4, some 1), (5, some 0), (6, none), (7, some 1)] (by kernel_rfl) (by kernel_rfl) (by kernel_rfl) (by kernel_rfl) (by kernel_rfl) (fun _ _ _ _ _ h => h) (GD.out _ (Below.refl _ _).drew) ?_
    simp only [List.map_cons, List.map_nil, List.getD_cons_succ, List.getD_cons_zero]
    (repeat (first | (refine qs_now (v := ?_) (by rfl) ?_ ?_; rotate_left 1; (· (intro w' hS; go_simp; (try (simp only [↓IntWalk.iteOmega]; go_simp)); (try simp (disch := omega) only [IntWalk.i64_in]); try with_reducible rfl)); simp only [Act.put, List.setIfInBounds_toArray, List.set_cons_zero, List.set_cons_succ]) | (refine qs_run (v := ?_) (by rfl) ?_ ?_; rotate_left 1; (· (intro j w' hS; go_simp; (try (simp only [↓IntWalk.iteOmega]; go_simp)); (try simp (disch := omega) only [IntWalk.i64_in]); try with_reducible rfl)); simp only [Act.put, List.setIfInBounds_toArray, List.set_cons_zero, List.set_cons_succ]) | (refine qs_mid (v := ?_) (by rfl) ?_ ?_; rotate_left 1; (· (intro j w' hj1 hj2 hS; go_simp; (try (simp only [↓IntWalk.iteOmega]; go_simp)); (try simp (disch := omega) only [IntWalk.i64_in]); try with_reducible rfl)); simp only [Act.put, List.setIfInBounds_toArray, List.set_cons_zero, List.set_cons_succ]) | (refine qs_skip (by rfl) ?_; simp only [Act.put, List.setIfInBounds_toArray, List.set_cons_zero, List.set_cons_succ])))
    refine qs_act ?_
    go_wp2_with (go_at_call 53; refine (rSnap_any (S1.out.below (Below.refl _ _).drew).src S1.out.len (by omega) o.snap).mono ?_; rintro e w2 ⟨rfl, hb⟩; rewrite [← HSb.out]; have L2 := Lib.hid (below_chain (Below.refl _ w1).drew hb); clear hb)
    refine ⟨GD.out _ L2.out, ?_⟩
    (repeat (first | (refine qs_now (v := ?_) (by rfl) ?_ ?_; rotate_left 1; (· (intro w' hS; go_simp; (try (simp only [↓IntWalk.iteOmega]; go_simp)); (try simp (disch := omega) only [IntWalk.i64_in]); try with_reducible rfl)); simp only [Act.put, List.setIfInBounds_toArray, List.set_cons_zero, List.set_cons_succ]) | (refine qs_run (v := ?_) (by rfl) ?_ ?_; rotate_left 1; (· (intro j w' hS; go_simp; (try (simp only [↓IntWalk.iteOmega]; go_simp)); (try simp (disch := omega) only [IntWalk.i64_in]); try with_reducible rfl)); simp only [Act.put, List.setIfInBounds_toArray, List.set_cons_zero, List.set_cons_succ]) | (refine qs_mid (v := ?_) (by rfl) ?_ ?_; rotate_left 1; (· (intro j w' hj1 hj2 hS; go_simp; (try (simp only [↓IntWalk.iteOmega]; go_simp)); (try simp (disch := omega) only [IntWalk.i64_in]); try with_reducible rfl)); simp only [Act.put, List.setIfInBounds_toArray, List.set_cons_zero, List.set_cons_succ]) | (refine qs_skip (by rfl) ?_; simp only [Act.put, List.setIfInBounds_toArray, List.set_cons_zero, List.set_cons_succ])))
    refine qs_nil ?_
    clear c0 c3 s1
    have S2 := Lib.hid (S1.out.below L2.out)
    have s1 := S2.out.c1
    have c3 := (GD.out _ L2.out).2
    have HF := Lib.hid (do_bad (L := l) HRt.out (show (stepL n l o).2 = 13 by rw [HSt0.out]; rfl) (by decide))
    go_wp2_with fail
    go_ret
    exact RDoPost.bad HS.out HF.out (below_chain L1.out L2.out)
  case true =>
    refine wp_region_qs (fun _ w' => w'.cell? ⟨xs, 1, none⟩ = some (.slice A m c) ∧ w'.cell? ⟨w.heap.size, 3, none⟩ = some (.int .i64 o.snap)) [(0, some 1), (1, some 1), (2, some 1), (3, some 0), (4, some 1), (5, some 0), (6, none), (7, some 1)] (by kernel_rfl) (by kernel_rfl) (by kernel_rfl) (by kernel_rfl) (by kernel_rfl) (fun _ _ _ _ _ h => h) (GD.out _ (Below.refl _ _).drew) ?_
    simp only [List.map_cons, List.map_nil, List.getD_cons_succ, List.getD_cons_zero]
    (repeat (first | (refine qs_now (v := ?_) (by rfl) ?_ ?_; rotate_left 1; (· (intro w' hS; go_simp; (try (simp only [↓IntWalk.iteOmega]; go_simp)); (try simp (disch := omega) only [IntWalk.i64_in]); try with_reducible rfl)); simp only [Act.put, List.setIfInBounds_toArray, List.set_cons_zero, List.set_cons_succ]) | (refine qs_run (v := ?_) (by rfl) ?_ ?_; rotate_left 1; (· (intro j w' hS; go_simp; (try (simp only [↓IntWalk.iteOmega]; go_simp)); (try simp (disch := omega) only [IntWalk.i64_in]); try with_reducible rfl)); simp only [Act.put, List.setIfInBounds_toArray, List.set_cons_zero, List.set_cons_succ]) | (refine qs_mid (v := ?_) (by rfl) ?_ ?_; rotate_left 1; (· (intro j w' hj1 hj2 hS; go_simp; (try (simp only [↓IntWalk.iteOmega]; go_simp)); (try simp (disch := omega) only [IntWalk.i64_in]); try with_reducible rfl)); simp only [Act.put, List.setIfInBounds_toArray, List.set_cons_zero, List.set_cons_succ]) | (refine qs_skip (by rfl) ?_; simp only [Act.put, List.setIfInBounds_toArray, List.set_cons_zero, List.set_cons_succ])))
    refine qs_act ?_
    go_wp2_with (go_at_call 53; refine (rSnap_any (S1.out.below (Below.refl _ _).drew).src S1.out.len (by omega) o.snap).mono ?_; rintro e w2 ⟨rfl, hb⟩; rewrite [← HSb.out]; have L2 := Lib.hid (below_chain (Below.refl _ w1).drew hb); clear hb)
    refine ⟨GD.out _ L2.out, ?_⟩
    (repeat (first | (refine qs_now (v := ?_) (by rfl) ?_ ?_; rotate_left 1; (· (intro w' hS; go_simp; (try (simp only [↓IntWalk.iteOmega]; go_simp)); (try simp (disch := omega) only [IntWalk.i64_in]); try with_reducible rfl)); simp only [Act.put, List.setIfInBounds_toArray, List.set_cons_zero, List.set_cons_succ]) | (refine qs_run (v := ?_) (by rfl) ?_ ?_; rotate_left 1; (· (intro j w' hS; go_simp; (try (simp only [↓IntWalk.iteOmega]; go_simp)); (try simp (disch := omega) only [IntWalk.i64_in]); try with_reducible rfl)); simp only [Act.put, List.setIfInBounds_toArray, List.set_cons_zero, List.set_cons_succ]) | (refine qs_mid (v := ?_) (by rfl) ?_ ?_; rotate_left 1; (· (intro j w' hj1 hj2 hS; go_simp; (try (simp only [↓IntWalk.iteOmega]; go_simp)); (try simp (disch := omega) only [IntWalk.i64_in]); try with_reducible rfl)); simp only [Act.put, List.setIfInBounds_toArray, List.set_cons_zero, List.set_cons_succ]) | (refine qs_skip (by rfl) ?_; simp only [Act.put, List.setIfInBounds_toArray, List.set_cons_zero, List.set_cons_succ])))
    refine qs_nil ?_
    clear c0 c3 s1
    have S2 := Lib.hid (S1.out.below L2.out)
    have s1 := S2.out.c1
    have c3 := (GD.out _ L2.out).2
    obtain ⟨q, hq⟩ : ∃ q, q = withoutL l o.snap 0 512 := ⟨_, rfl⟩
    have HSt1 := Lib.hid (show stepL n l o = (q.filter (delP o.snap), 0) by rw [HSt0.out, if_pos trivial, hq])
    have HQ := Lib.hid hq
    have hql : q.length ≤ 1000000 := by
      rw [hq]
      unfold withoutL
      have h1 := List.length_filter_le (outB o.snap 0 512) l
      have h2 := HLm.out
      omega
    clear s1 c3 hq
    go_upto_region 23 with fail
    refine wp_region_qs (fun _ w' => w'.cell? ⟨xs, 1, none⟩ = some (.slice A m c) ∧ w'.cell? ⟨w.heap.size, 3, none⟩ = some (.int .i64 o.snap)) [(0, some 1), (1, some 1), (2, some 1), (3, some 0), (4, some 1), (5, some 0), (6, none), (7, some 1)] (by kernel_rfl) (by kernel_rfl) (by kernel_rfl) (by kernel_rfl) (by kernel_rfl) (fun _ _ _ _ _ h => h) (GD.out _ L2.out.drew) ?_
    simp only [List.map_cons, List.map_nil, List.getD_cons_succ, List.getD_cons_zero]
    (repeat (first | (refine qs_now (v := ?_) (by rfl) ?_ ?_; rotate_left 1; (· (intro w' hS; go_simp; (try (simp only [↓IntWalk.iteOmega]; go_simp)); (try simp (disch := omega) only [IntWalk.i64_in]); try with_reducible rfl)); simp only [Act.put, List.setIfInBounds_toArray, List.set_cons_zero, List.set_cons_succ]) | (refine qs_run (v := ?_) (by rfl) ?_ ?_; rotate_left 1; (· (intro j w' hS; go_simp; (try (simp only [↓IntWalk.iteOmega]; go_simp)); (try simp (disch := omega) only [IntWalk.i64_in]); try with_reducible rfl)); simp only [Act.put, List.setIfInBounds_toArray, List.set_cons_zero, List.set_cons_succ]) | (refine qs_mid (v := ?_) (by rfl) ?_ ?_; rotate_left 1; (· (intro j w' hj1 hj2 hS; go_simp; (try (simp only [↓IntWalk.iteOmega]; go_simp)); (try simp (disch := omega) only [IntWalk.i64_in]); try with_reducible rfl)); simp only [Act.put, List.setIfInBounds_toArray, List.set_cons_zero, List.set_cons_succ]) | (refine qs_skip (by rfl) ?_; simp only [Act.put, List.setIfInBounds_toArray, List.set_cons_zero, List.set_cons_succ])))
    refine qs_act ?_
    go_wp2_with (go_at_call 56; refine (rWithout_any (S1.out.below L2.out.drew).src S1.out.len (by omega) o.snap 0 512).mono ?_; rintro e w4 ⟨v4, rfl, ho, hb⟩; rewrite [← HQ.out] at ho; have O4 := Lib.hid ho; have L4 := Lib.hid (below_chain L2.out.drew hb); clear ho hb)
    refine ⟨GD.out _ L4.out, ?_⟩
    (repeat (first | (refine qs_now (v := ?_) (by rfl) ?_ ?_; rotate_left 1; (· (intro w' hS; go_simp; (try (simp only [↓IntWalk.iteOmega]; go_simp)); (try simp (disch := omega) only [IntWalk.i64_in]); try with_reducible rfl)); simp only [Act.put, List.setIfInBounds_toArray, List.set_cons_zero, List.set_cons_succ]) | (refine qs_run (v := ?_) (by rfl) ?_ ?_; rotate_left 1; (· (intro j w' hS; go_simp; (try (simp only [↓IntWalk.iteOmega]; go_simp)); (try simp (disch := omega) only [IntWalk.i64_in]); try with_reducible rfl)); simp only [Act.put, List.setIfInBounds_toArray, List.set_cons_zero, List.set_cons_succ]) | (refine qs_mid (v := ?_) (by rfl) ?_ ?_; rotate_left 1; (· (intro j w' hj1 hj2 hS; go_simp; (try (simp only [↓IntWalk.iteOmega]; go_simp)); (try simp (disch := omega) only [IntWalk.i64_in]); try with_reducible rfl)); simp only [Act.put, List.setIfInBounds_toArray, List.set_cons_zero, List.set_cons_succ]) | (refine qs_skip (by rfl) ?_; simp only [Act.put, List.setIfInBounds_toArray, List.set_cons_zero, List.set_cons_succ])))
    refine qs_nil ?_
    obtain ⟨Aq, cq, hvq, _⟩ := own_slice O4.out
    subst hvq
    go_upto_region 25 with fail
    go_loopg [5, 8] q.length (fun k v iv wr => WoI w4 q q.length (fun i => (q.take i).filter (delP o.snap)) k v iv wr)
    case atStart => exact ⟨0, [], rfl, by omega, by omega, by omega, by simp, by simp, World.ownsRow_nil _ _ _ _, Below.refl _ _⟩
    case round =>
      obtain ⟨i, r, rfl, i1, i2, i3, hr0, hrl, ho, hb⟩ := hrel
      have HR := Lib.hid hr0
      have O := Lib.hid ho
      have LB := Lib.hid hb
      clear hr0 ho hb
      by_cases hi : i < q.length
      · have hiI : (i : Int) < (q.length : Int) := by omega
        obtain ⟨bb, off, hA, hr⟩ := src_part itC_len (Src.of_own (own_belowR O4.out LB.out)) rfl hi
        have HN := Lib.hid (fil_take (p := delP o.snap) hi)
        generalize q[i] = x at hr HN
        subst hA
        have k0 : wr.cell? ⟨bb, off + i * 73, none⟩ = some (.int .u8 x.kind) := hr 0 _ rfl
        have k1 := hr 37 _ (it_snap x)
        have c3 := (GD.out _ (below_chain L4.out LB.out)).2
        have Rg := Lib.hid hr
        clear hr
        by_cases h1 : x.kind = 3
        · have b1 : (x.kind != 3) = false := by simp [h1]
          by_cases h2 : x.snap = o.snap
          · have b2 : (x.snap != o.snap) = false := by simp [h2]
            have HF := Lib.hid (show r = (q.take (i + 1)).filter (delP o.snap) by
              have h := HN.out
              rw [show delP o.snap x = false by unfold delP; simp [h1, h2], if_neg (by decide), List.append_nil] at h
              rw [h, HR.out])
            clear h1 h2
            go_upto_region 27 with fail
            refine wp_region_qs (fun _ w' => w'.cell? ⟨bb, off + i * 73, none⟩ = some (.int .u8 x.kind) ∧ w'.cell? ⟨bb, off + i * 73 + 37, none⟩ = some (.int .i64 x.snap) ∧ w'.cell? ⟨w.heap.size, 3, none⟩ = some (.int .i64 o.snap)) [(0, some 0), (1, some 0), (2, some 0), (3, some 0), (4, some 0), (5, some 0), (6, some 0), (7, some 0), (8, some 0), (9, some 0), (10, some 0), (11, some 0), (12, some 0), (13, some 0), (14, some 0), (15, some 0)] (by kernel_rfl) (by kernel_rfl) (by kernel_rfl) (by kernel_rfl) (by kernel_rfl) (fun _ _ _ _ _ h => h) ⟨k0, k1, c3⟩ ?_
            simp only [List.map_cons, List.map_nil, List.getD_cons_succ, List.getD_cons_zero]
            (repeat (first | (refine qs_now (v := ?_) (by rfl) ?_ ?_; rotate_left 1; (· (intro w' hS; go_simp; (try (simp only [↓IntWalk.iteOmega]; go_simp)); (try simp (disch := omega) only [IntWalk.i64_in]); try with_reducible rfl)); simp only [Act.put, List.setIfInBounds_toArray, List.set_cons_zero, List.set_cons_succ]) | (refine qs_run (v := ?_) (by rfl) ?_ ?_; rotate_left 1; (· (intro j w' hS; go_simp; (try (simp only [↓IntWalk.iteOmega]; go_simp)); (try simp (disch := omega) only [IntWalk.i64_in]); try with_reducible rfl)); simp only [Act.put, List.setIfInBounds_toArray, List.set_cons_zero, List.set_cons_succ]) | (refine qs_mid (v := ?_) (by rfl) ?_ ?_; rotate_left 1; (· (intro j w' hj1 hj2 hS; go_simp; (try (simp only [↓IntWalk.iteOmega]; go_simp)); (try simp (disch := omega) only [IntWalk.i64_in]); try with_reducible rfl)); simp only [Act.put, List.setIfInBounds_toArray, List.set_cons_zero, List.set_cons_succ]) | (refine qs_skip (by rfl) ?_; simp only [Act.put, List.setIfInBounds_toArray, List.set_cons_zero, List.set_cons_succ])))
            refine qs_nil ?_
            go_wp2_with fail
            go_roundg (gk - 1)
            case measure => omega
            case rel => exact ⟨i + 1, r, by congr 1, by omega, by omega, by omega, HF.out, by omega, own_belowR O.out (Below.refl _ wr).drew, LB.out.drew⟩
          · have b2 : (x.snap != o.snap) = true := by simp [h2]
            have HP := Lib.hid (show delP o.snap x = true by unfold delP; simp [h2])
            clear h1 h2
            go_upto_region 27 with fail
            refine wp_region_qs (fun _ w' => w'.cell? ⟨bb, off + i * 73, none⟩ = some (.int .u8 x.kind) ∧ w'.cell? ⟨bb, off + i * 73 + 37, none⟩ = some (.int .i64 x.snap) ∧ w'.cell? ⟨w.heap.size, 3, none⟩ = some (.int .i64 o.snap)) [(0, some 0), (1, some 0), (2, some 0), (3, some 0), (4, some 0), (5, some 0), (6, some 0), (7, some 0), (8, some 0), (9, some 0), (10, some 0), (11, some 0), (12, some 0), (13, some 0), (14, some 0), (15, some 0)] (by kernel_rfl) (by kernel_rfl) (by kernel_rfl) (by kernel_rfl) (by kernel_rfl) (fun _ _ _ _ _ h => h) ⟨k0, k1, c3⟩ ?_
            simp only [List.map_cons, List.map_nil, List.getD_cons_succ, List.getD_cons_zero]
            (repeat (first | (refine qs_now (v := ?_) (by rfl) ?_ ?_; rotate_left 1; (· (intro w' hS; go_simp; (try (simp only [↓IntWalk.iteOmega]; go_simp)); (try simp (disch := omega) only [IntWalk.i64_in]); try with_reducible rfl)); simp only [Act.put, List.setIfInBounds_toArray, List.set_cons_zero, List.set_cons_succ]) | (refine qs_run (v := ?_) (by rfl) ?_ ?_; rotate_left 1; (· (intro j w' hS; go_simp; (try (simp only [↓IntWalk.iteOmega]; go_simp)); (try simp (disch := omega) only [IntWalk.i64_in]); try with_reducible rfl)); simp only [Act.put, List.setIfInBounds_toArray, List.set_cons_zero, List.set_cons_succ]) | (refine qs_mid (v := ?_) (by rfl) ?_ ?_; rotate_left 1; (· (intro j w' hj1 hj2 hS; go_simp; (try (simp only [↓IntWalk.iteOmega]; go_simp)); (try simp (disch := omega) only [IntWalk.i64_in]); try with_reducible rfl)); simp only [Act.put, List.setIfInBounds_toArray, List.set_cons_zero, List.set_cons_succ]) | (refine qs_skip (by rfl) ?_; simp only [Act.put, List.setIfInBounds_toArray, List.set_cons_zero, List.set_cons_succ])))
            refine qs_nil ?_
            have HF := Lib.hid (show r ++ [x] = (q.take (i + 1)).filter (delP o.snap) by
              have h := HN.out
              rw [HP.out, if_pos rfl] at h
              rw [h, HR.out])
            have HFl := Lib.hid (show (r ++ [x]).length ≤ i + 1 by rw [List.length_append, List.length_singleton]; omega)
            have Od := Lib.hid (own_belowR O.out (Below.refl _ wr).drew)
            have Rd := Lib.hid (show wr.drew.rangeAt bb (off + i * 73) (itC x) from Rg.out)
            go_wp2_with (first
              | ((with_reducible show wpList _ _ _ (_ :: _) _ _); refine wpl_sidx rfl 41 (.tmp 126) (.tmp 127) (by rfl) Tryz.underlying41 Tryz.sizeOf56 bb off q.length cq i (by rfl) (by rfl) hi ?_; simp only [Act.put, List.setIfInBounds_toArray, List.set_cons_zero, List.set_cons_succ])
              | ((with_reducible show wpList _ _ _ (_ :: _) _ _); refine wpList_load_mid rfl 56 (.tmp 128) (by rfl) bb (off + i * 73) (by rfl) (itC x) _ Rd.out Tryz.underlying56 rfl (itC_info x) ?_; simp only [Act.put, List.setIfInBounds_toArray, List.set_cons_zero, List.set_cons_succ])
              | ((with_reducible show wpList _ _ _ (_ :: _) _ _); refine wpl_lit_it rfl (.tmp 129) (by rfl) x (by rfl) ?_; intro w8 hk hg hz; have K8 := Lib.hid hk; have L8 := Lib.hid (bl_n LB.out.drew hg); have O8 := Lib.hid (own_belowR Od.out (bl_n (Below.refl _ _) hg)); clear hk hg hz; simp only [Act.put, List.setIfInBounds_toArray, List.set_cons_zero, List.set_cons_succ])
              | ((with_reducible show wpList _ _ _ (_ :: _) _ _); refine wpl_app_it rfl (.tmp 125) (.tmp 130) (by rfl) w4.heap.size u5 r (by rfl) O8.out _ x (by rfl) K8.out (by omega) L8.out.size ?_; intro v9 w9 ho hg; have O9 := Lib.hid ho; have L9 := Lib.hid (L8.out.grown hg L8.out.size (fun k hk => (own_at O8.out k hk).1)); clear ho hg; simp only [Act.put, List.setIfInBounds_toArray, List.set_cons_zero, List.set_cons_succ]))
            go_roundg (gk - 1)
            case measure => omega
            case rel => exact ⟨i + 1, r ++ [x], by congr 1, by omega, by omega, by omega, HF.out, HFl.out, O9.out, L9.out⟩
        · have b1 : (x.kind != 3) = true := by simp [h1]
          have HP := Lib.hid (show delP o.snap x = true by unfold delP; simp [h1])
          clear h1
          go_upto_region 27 with fail
          refine wp_region_qs (fun _ w' => w'.cell? ⟨bb, off + i * 73, none⟩ = some (.int .u8 x.kind) ∧ w'.cell? ⟨bb, off + i * 73 + 37, none⟩ = some (.int .i64 x.snap) ∧ w'.cell? ⟨w.heap.size, 3, none⟩ = some (.int .i64 o.snap)) [(0, some 0), (1, some 0), (2, some 0), (3, some 0), (4, some 0), (5, some 0), (6, some 0), (7, some 0), (8, some 0), (9, some 0), (10, some 0), (11, some 0), (12, some 0), (13, some 0), (14, some 0), (15, some 0)] (by kernel_rfl) (by kernel_rfl) (by kernel_rfl) (by kernel_rfl) (by kernel_rfl) (fun _ _ _ _ _ h => h) ⟨k0, k1, c3⟩ ?_
          simp only [List.map_cons, List.map_nil, List.getD_cons_succ, List.getD_cons_zero]
          (repeat (first | (refine qs_now (v := ?_) (by rfl) ?_ ?_; rotate_left 1; (· (intro w' hS; go_simp; (try (simp only [↓IntWalk.iteOmega]; go_simp)); (try simp (disch := omega) only [IntWalk.i64_in]); try with_reducible rfl)); simp only [Act.put, List.setIfInBounds_toArray, List.set_cons_zero, List.set_cons_succ]) | (refine qs_run (v := ?_) (by rfl) ?_ ?_; rotate_left 1; (· (intro j w' hS; go_simp; (try (simp only [↓IntWalk.iteOmega]; go_simp)); (try simp (disch := omega) only [IntWalk.i64_in]); try with_reducible rfl)); simp only [Act.put, List.setIfInBounds_toArray, List.set_cons_zero, List.set_cons_succ]) | (refine qs_mid (v := ?_) (by rfl) ?_ ?_; rotate_left 1; (· (intro j w' hj1 hj2 hS; go_simp; (try (simp only [↓IntWalk.iteOmega]; go_simp)); (try simp (disch := omega) only [IntWalk.i64_in]); try with_reducible rfl)); simp only [Act.put, List.setIfInBounds_toArray, List.set_cons_zero, List.set_cons_succ]) | (refine qs_skip (by rfl) ?_; simp only [Act.put, List.setIfInBounds_toArray, List.set_cons_zero, List.set_cons_succ])))
          refine qs_nil ?_
          have HF := Lib.hid (show r ++ [x] = (q.take (i + 1)).filter (delP o.snap) by
            have h := HN.out
            rw [HP.out, if_pos rfl] at h
            rw [h, HR.out])
          have HFl := Lib.hid (show (r ++ [x]).length ≤ i + 1 by rw [List.length_append, List.length_singleton]; omega)
          have Od := Lib.hid (own_belowR O.out (Below.refl _ wr).drew)
          have Rd := Lib.hid (show wr.drew.rangeAt bb (off + i * 73) (itC x) from Rg.out)
          go_wp2_with (first
            | ((with_reducible show wpList _ _ _ (_ :: _) _ _); refine wpl_sidx rfl 41 (.tmp 126) (.tmp 127) (by rfl) Tryz.underlying41 Tryz.sizeOf56 bb off q.length cq i (by rfl) (by rfl) hi ?_; simp only [Act.put, List.setIfInBounds_toArray, List.set_cons_zero, List.set_cons_succ])
            | ((with_reducible show wpList _ _ _ (_ :: _) _ _); refine wpList_load_mid rfl 56 (.tmp 128) (by rfl) bb (off + i * 73) (by rfl) (itC x) _ Rd.out Tryz.underlying56 rfl (itC_info x) ?_; simp only [Act.put, List.setIfInBounds_toArray, List.set_cons_zero, List.set_cons_succ])
            | ((with_reducible show wpList _ _ _ (_ :: _) _ _); refine wpl_lit_it rfl (.tmp 129) (by rfl) x (by rfl) ?_; intro w8 hk hg hz; have K8 := Lib.hid hk; have L8 := Lib.hid (bl_n LB.out.drew hg); have O8 := Lib.hid (own_belowR Od.out (bl_n (Below.refl _ _) hg)); clear hk hg hz; simp only [Act.put, List.setIfInBounds_toArray, List.set_cons_zero, List.set_cons_succ])
            | ((with_reducible show wpList _ _ _ (_ :: _) _ _); refine wpl_app_it rfl (.tmp 125) (.tmp 130) (by rfl) w4.heap.size u5 r (by rfl) O8.out _ x (by rfl) K8.out (by omega) L8.out.size ?_; intro v9 w9 ho hg; have O9 := Lib.hid ho; have L9 := Lib.hid (L8.out.grown hg L8.out.size (fun k hk => (own_at O8.out k hk).1)); clear ho hg; simp only [Act.put, List.setIfInBounds_toArray, List.set_cons_zero, List.set_cons_succ]))
          go_roundg (gk - 1)
          case measure => omega
          case rel => exact ⟨i + 1, r ++ [x], by congr 1, by omega, by omega, by omega, HF.out, HFl.out, O9.out, L9.out⟩
      · have hiI : ¬ (i : Int) < (q.length : Int) := by omega
        obtain ⟨L, hL⟩ : ∃ L, L = r := ⟨_, rfl⟩
        have HSt := Lib.hid (show stepL n l o = (L, 0) by
          have h2 : r = (q.take i).filter (delP o.snap) := HR.out
          rw [List.take_of_length_le (by omega)] at h2
          rw [HSt1.out, hL, h2])
        have O5 := Lib.hid (show wr.ownsRow w1.heap.size 56 73 u5 L.length (itsC L) by rw [hL]; exact own_loR O.out L4.out.size)
        have HLn := Lib.hid (show L.length ≤ 100000000 by rw [hL]; omega)
        have L5 := Lib.hid (below_chain L4.out LB.out)
        clear hL
        go_upto_region 29 with fail
        obtain ⟨A5, c5, hv5, _⟩ := own_slice O5.out
        subst hv5
        go_upto_region 31 with (first
          | (go_at_call 57; refine (rSettled_any (Src.of_own O5.out) rfl HLn.out).mono ?_; rintro e w6 ⟨v6, rfl, ho, hb⟩; obtain ⟨A7, c7, rfl, _⟩ := own_slice ho; have O6 := Lib.hid ho; have L6 := Lib.hid (below_chain L5.out hb); have S6 := Lib.hid (S1.out.below L6.out); have s1 := S6.out.c1; have f1 := S6.out.blk.free 1; clear ho hb))
        obtain ⟨w7, hw7⟩ : ∃ v, v = w6.setCell ⟨xs, 1, none⟩ (.slice A7 (settledL L).length c7) := ⟨_, rfl⟩
        rw [← hw7]
        have K7 := Lib.hid (show Blk w7 xs 80 #[.int .i64 (n : Int), .slice A7 (settledL L).length c7] by
          have h2 := S6.out.blk.put 1 (.slice A7 (settledL L).length c7)
          rw [hw7]
          exact h2)
        have hg7 : w6.grownBy w7 (some xs) := by rw [hw7]; exact grown_put _ ⟨xs, 1, none⟩ _
        have hne := S6.out.ne O6.out
        have O7 := Lib.hid (own_keptR O6.out hg7 (fun b hb hv => hne (by rw [hv, hb])))
        have T7 := Lib.hid (show Tch [xs] w w7 from (Tch.below (below_chain L1.out L6.out)).trans (Tch.grown hg7 (fun k hk => by injection hk with hk; subst hk; exact .inl (by simp))))
        clear hw7 s1 f1 hg7 hne
        go_wp2_with fail
        go_ret
        refine ⟨(settledL L).length, c7, A7, by rw [do_good HRt.out HSt.out]; rfl, ?_, T7.out⟩
        rw [do_good HRt.out HSt.out]
        exact ⟨K7.out, own_loR O7.out (by have h1 := HBs.out; have h2 := L1.out.size; have h3 := L5.out.size; omega), rfl, hn512⟩
end
end Go.Proofs.YtgjjdfhoakailaaGreat
