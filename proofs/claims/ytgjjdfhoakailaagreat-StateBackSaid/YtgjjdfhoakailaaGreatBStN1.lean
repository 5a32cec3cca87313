/-
  what this claim needs of: StN1 (written by cut.py).
-/
import Derived.Test.YtgjjdfhoakailaaGreatBStS7
import Derived.Test.YtgjjdfhoakailaaGreatBStP
namespace Go.Proofs.YtgjjdfhoakailaaGreat
open Go.RowKit Go.Maps Go.Sort Go.Shelf
set_option linter.unusedVariables false
set_option linter.unusedSimpArgs false

theorem putAt_two (cs : Array Value) (vs us : List Value) (h : cs.size = vs.length + us.length) : putAt (putAt cs 0 vs) vs.length us = (vs ++ us).toArray := by
  rw [putAt_list cs 0 vs (by omega), putAt_list _ _ _ (by simp; omega)]
  refine congrArg List.toArray ?_
  simp only [List.take_zero, List.nil_append, Nat.zero_add, List.take_left, List.append_assoc]
  rw [List.drop_eq_nil_of_le (by simp; omega), List.append_nil]
section
variable {P : Program} {w : World} {ops : Array Oper} {rest : List Oper} {o : Oper} {a : Act} {Q : Exit → Act → World → Prop}
/-- A slice literal of two elements. -/
theorem wpl_lit2 (hg : o.guard = none) (t e : TypeId) (x y : Operand) (hop : o.op = .buildSlice t 2 #[(0, x), (1, y)]) (vs us : List Value) (hlen : us.length = vs.length) (X Y : Value) (hx : a.eval x = X) (hX : X.cells.toList = vs) (hy : a.eval y = Y) (hY : Y.cells.toList = us) (hu : P.underlying t = some (.slice e)) {z : Value} {bytes : Nat}
    (hi : (P.info? e).map (fun i => (i.zero, i.size, i.bytes)) = some (some z, vs.length, bytes)) (hz : z.cells.size = vs.length) (hpos : 0 < vs.length) (hsm : vs.length ≤ 1000000)
    (hK : ∀ w1, Blk w1 w.heap.size e (vs ++ us).toArray → w.grownBy w1 none → w1.heap.size = w.heap.size + 1 → wpList P ops Q rest (a.put o.dst (.slice (some ⟨w.heap.size, 0, none⟩) 2 2)) w1) : wpList P ops Q (o :: rest) a w := by
  obtain ⟨i0, hi', hz0, hz1, hz2⟩ := info_parts hi
  refine wpList_buildSlice hg t e 2 #[(0, x), (1, y)] hop (vs ++ us).toArray i0 z hu hi' hz0 (by rw [hz1]; omega) (by rw [hz1]; omega) ?_ (hK _ (Blk.made _ _ _) (World.grownBy_alloc w _ none) (by simp))
  rw [Array.toList_map]
  simp only [List.map_cons, List.map_nil]
  rw [hx, hy, hz1, fill_cons 0 vs hX (by simp) (by simp; omega), fill_cons vs.length us hY (by rw [hlen]; simp) (by rw [size_putAt]; simp; omega)]
  unfold Instr.fill
  rw [putAt_two _ _ _ (by simp; omega)]
end
theorem built_k9 : Tryz.prog.built 50 [(0, .int .u8 9)] = some (keyL wK).toArray := by kernel_rfl
theorem wanted_any {w : World} {si xi bx mi bs n : Nat} {E : ExM} {f : MpF} {M : SnM} (h : StIs w si xi bx mi bs n E f M) :
    Calls Tryz.prog 34 #[.pointer (some ⟨si, 0, none⟩)] w fun e w' => e = .returned (.int .i64 (wantedN E wK)) ∧ Below w.heap.size w w' := by
  have H := Lib.hid h
  clear h
  obtain ⟨q, hq⟩ : ∃ q, q = (aget E wK).getD zPl := ⟨_, rfl⟩
  obtain ⟨bb, hbb⟩ : ∃ b, b = (aget E wK).isSome := ⟨_, rfl⟩
  have HQ := Lib.hid hq
  have HB := Lib.hid hbb
  clear hq hbb
  go_enter Tryz.func34, Tryz.ntmps34
  go_upto_region 2 with (first
    | (go_at_call 22; refine (st_index H.out).mono ?_; rintro e w1 ⟨rfl, rfl⟩)
    | ((with_reducible show wpList _ _ _ (_ :: _) _ _); refine wpl_mk rfl 50 #[(0, .const (.int .u8 9))] (by rfl) [(0, .int .u8 9)] (by rfl) _ built_k9 ?_)
    | (go_at_call 84; refine (x_get' H.out.idx wK HQ.out HB.out).mono ?_; rintro e w2 ⟨rfl, hb⟩; have L2 := Lib.hid hb; clear hb)
    | ((with_reducible show wpList _ _ _ (_ :: _) _ _); refine wpl_alloc rfl 52 rfl Tryz.zeroValue52 4 rfl ?_; intro w3 cs hk hc hg hz; have K := Lib.hid hk; have Cs := Lib.hid hc; have L3 := Lib.hid (bl_n L2.out hg); clear hk hc hg hz)
    | ((with_reducible show wpList _ _ _ (_ :: _) _ _); refine wpl_over rfl 52 (.tmp 3) (.tmp 10) rfl w2.heap.size (plC q) rfl rfl _ cs K.out (plC_info q) (by rw [Cs.out]; rfl) (plC_one q) ?_; intro w4 hk hg hz; have K2 := Lib.hid hk; have L4 := Lib.hid (bl_g L3.out hg L2.out.size); clear hk hg hz))
  have c3 := K2.out.cell (i := 3) (v := .int .i64 q.ref) rfl
  go_wp2_with fail
  go_ret
  exact ⟨by rw [HQ.out]; rfl, L4.out⟩
def wPl : Pl := ⟨500, 3, 2, 0⟩
def wS0 : Sl := ⟨wK, 0, 255⟩
def wS1 : Sl := ⟨wK, 1, 15⟩
def wFr : Fr := ⟨wK, wPl⟩
def wP0 : Pu := ⟨0, wS0⟩
def wP1 : Pu := ⟨1, wS1⟩
theorem built_wPl : Tryz.prog.built 52 [(0, .int .i64 500), (1, .int .i64 3), (2, .int .i64 2)] = some (plC wPl).toArray := by kernel_rfl
theorem built_wFr : Tryz.prog.built 130 [(0, .agg (keyL wK).toArray), (1, .agg (plC wPl).toArray)] = some (frC wFr).toArray := by kernel_rfl
theorem built_wS0 : Tryz.prog.built 54 [(0, .agg (keyL wK).toArray), (2, .int .i64 255)] = some (slC wS0).toArray := by kernel_rfl
theorem built_wS1 : Tryz.prog.built 54 [(0, .agg (keyL wK).toArray), (1, .int .i64 1), (2, .int .i64 15)] = some (slC wS1).toArray := by kernel_rfl
theorem built_wP0 : Tryz.prog.built 132 [(0, .int .i64 0), (1, .agg (slC wS0).toArray)] = some (puC wP0).toArray := by kernel_rfl
theorem built_wP1 : Tryz.prog.built 132 [(0, .int .i64 1), (1, .agg (slC wS1).toArray)] = some (puC wP1).toArray := by kernel_rfl
theorem built_wOp (a b : Nat) : Tryz.prog.built 35 [(0, .int .u8 1), (4, .slice (some ⟨a, 0, none⟩) 1 1), (5, .slice (some ⟨b, 0, none⟩) 2 2)] = some (opC wOp (some ⟨a, 0, none⟩) 1 (some ⟨b, 0, none⟩) 2).toArray := by kernel_rfl
theorem built_sOp2 (k s : Int) : Tryz.prog.built 35 [(0, .int .u8 k), (3, .int .i64 s)] = some (opC (sOp k 0 0 s) none 0 none 0).toArray := by kernel_rfl
theorem built_sOp1 (k n : Int) : Tryz.prog.built 35 [(0, .int .u8 k), (2, .int .i64 n)] = some (opC (sOp k 0 n 0) none 0 none 0).toArray := by kernel_rfl
theorem info_Fr : (Tryz.prog.info? 130).map (fun i => (i.zero, i.size, i.bytes)) = some (some (.agg (frC ⟨zKey, zPl⟩).toArray), 36, 64) := by kernel_rfl
theorem info_Pu : (Tryz.prog.info? 132).map (fun i => (i.zero, i.size, i.bytes)) = some (some (.agg (puC ⟨0, zSl⟩).toArray), 35, 56) := by kernel_rfl
theorem zero_Fr_len : (Value.agg (frC ⟨zKey, zPl⟩).toArray).cells.size = 36 := by kernel_rfl
theorem zero_Pu_len : (Value.agg (puC ⟨0, zSl⟩).toArray).cells.size = 35 := by kernel_rfl
theorem src_blk {w : World} {B : Nat} {t : TypeId} {cs : Array Value} {size m c : Nat} (h : Blk w B t cs) (hs : cs.size = m * size) : Src w size (.slice (some ⟨B, 0, none⟩) m c) m cs.toList :=
  ⟨_, c, rfl, by simpa using hs, fun _ => ⟨B, 0, rfl, h.lt, fun j y hy => by rw [Nat.zero_add, h.cellq]; simpa using hy⟩⟩
/-- An op that was made: its value, and where its rows lie. -/
def OpMade (o : OpV) (w : World) (e : Ending) (w' : World) : Prop := ∃ A c B d, e = .returned (.agg (opC o A c B d).toArray) ∧ OpAt w' o A c B d ∧ (∀ T : List Nat, (∀ k ∈ T, k < w.heap.size) → Off o.news.length T A) ∧ (∀ T : List Nat, (∀ k ∈ T, k < w.heap.size) → Off o.puts.length T B) ∧ Below w.heap.size w w'
theorem off_new {m : Nat} {T : List Nat} {B a : Nat} (h : ∀ k ∈ T, k < B) (ha : B ≤ a) : Off m T (some ⟨a, 0, none⟩) := by
  intro _ p hp hk
  injection hp with hp
  subst hp
  have := h _ hk
  simp only at this
  omega
theorem off_none {m : Nat} {T : List Nat} : Off m T none := fun _ p hp => by cases hp
theorem op_none (w : World) (k p n s : Int) : OpAt w (sOp k p n s) none 0 none 0 := ⟨⟨none, 0, rfl, rfl, fun h => absurd h (by show ¬ (0 < 0); omega)⟩, ⟨none, 0, rfl, rfl, fun h => absurd h (by show ¬ (0 < 0); omega)⟩⟩
set_option maxRecDepth 100000 in
set_option maxHeartbeats 2000000 in
theorem lw_gen (w : World) (K : Key) (pl : Pl) (fr : Fr) (s0 s1 : Sl) (p0 p1 : Pu) (o : OpV)
    (BK : Hid (Tryz.prog.built 50 [(0, .int .u8 9)] = some (keyL K).toArray)) (BP : Hid (Tryz.prog.built 52 [(0, .int .i64 500), (1, .int .i64 3), (2, .int .i64 2)] = some (plC pl).toArray))
    (BF : Hid (Tryz.prog.built 130 [(0, .agg (keyL K).toArray), (1, .agg (plC pl).toArray)] = some (frC fr).toArray)) (BS0 : Hid (Tryz.prog.built 54 [(0, .agg (keyL K).toArray), (2, .int .i64 255)] = some (slC s0).toArray))
    (BS1 : Hid (Tryz.prog.built 54 [(0, .agg (keyL K).toArray), (1, .int .i64 1), (2, .int .i64 15)] = some (slC s1).toArray)) (BP0 : Hid (Tryz.prog.built 132 [(0, .int .i64 0), (1, .agg (slC s0).toArray)] = some (puC p0).toArray))
    (BP1 : Hid (Tryz.prog.built 132 [(0, .int .i64 1), (1, .agg (slC s1).toArray)] = some (puC p1).toArray)) (BO : Hid (∀ a b : Nat, Tryz.prog.built 35 [(0, .int .u8 1), (4, .slice (some ⟨a, 0, none⟩) 1 1), (5, .slice (some ⟨b, 0, none⟩) 2 2)] = some (opC o (some ⟨a, 0, none⟩) 1 (some ⟨b, 0, none⟩) 2).toArray))
    (HN : Hid (o.news = [fr])) (HP : Hid (o.puts = [p0, p1])) : Calls Tryz.prog 33 #[] w (OpMade o w) := by
  go_enter Tryz.func33, Tryz.ntmps33
  go_upto_region 1 with ((with_reducible show wpList _ _ _ (_ :: _) _ _); refine wpl_alloc rfl 35 rfl Tryz.zeroValue35 6 rfl ?_; intro w0 cs0 hk hc hg hz; have K0 := Lib.hid hk; have C0 := Lib.hid hc; have L0 := Lib.hid (bl_n (Below.refl _ w) hg); have Z0 := Lib.hid hz; clear hk hc hg hz)
  go_upto_region 2 with (first
    | ((with_reducible show wpList _ _ _ (_ :: _) _ _); refine wpl_mk rfl 50 #[(0, .const (.int .u8 9))] (by rfl) [(0, .int .u8 9)] (by rfl) _ BK.out ?_; simp only [Act.put, List.setIfInBounds_toArray, List.set_cons_zero, List.set_cons_succ])
    | ((with_reducible show wpList _ _ _ (_ :: _) _ _); refine wpl_alloc rfl 50 rfl Tryz.zeroValue50 32 rfl ?_; intro w1 cs1 hk hc hg hz; have K1 := Lib.hid hk; have C1 := Lib.hid hc; have L1 := Lib.hid (bl_n (Below.refl _ w0) hg); clear hk hc hg hz; simp only [Act.put, List.setIfInBounds_toArray, List.set_cons_zero, List.set_cons_succ])
    | ((with_reducible show wpList _ _ _ (_ :: _) _ _); refine wpl_over rfl 50 (.tmp 1) (.tmp 5) rfl w0.heap.size (keyL K) rfl rfl _ cs1 K1.out (keyL_info K) (by rw [C1.out, keyL_len]) (keyL_one K) ?_; intro w2 hk hg hz; have K2 := Lib.hid hk; have L2 := Lib.hid (bl_g L1.out hg (Nat.le_refl _)); clear hk hg hz; simp only [Act.put, List.setIfInBounds_toArray, List.set_cons_zero, List.set_cons_succ]))
  have R2 := Lib.hid (show w2.rangeAt w0.heap.size 0 (keyL K) by have := K2.out.range; rwa [toArr] at this)
  go_upto_region 3 with (first
    | ((with_reducible show wpList _ _ _ (_ :: _) _ _); refine wpList_load_mid rfl 50 (.tmp 1) rfl w0.heap.size 0 rfl (keyL K) _ R2.out Tryz.underlying50 rfl (keyL_info K) ?_; simp only [Act.put, List.setIfInBounds_toArray, List.set_cons_zero, List.set_cons_succ])
    | ((with_reducible show wpList _ _ _ (_ :: _) _ _); refine wpl_mk rfl 52 #[(0, .const (.int .i64 500)), (1, .const (.int .i64 3)), (2, .const (.int .i64 2))] (by rfl) [(0, .int .i64 500), (1, .int .i64 3), (2, .int .i64 2)] (by rfl) _ BP.out ?_; simp only [Act.put, List.setIfInBounds_toArray, List.set_cons_zero, List.set_cons_succ])
    | ((with_reducible show wpList _ _ _ (_ :: _) _ _); refine wpl_mk rfl 130 #[(0, .tmp 6), (1, .tmp 7)] (by rfl) [(0, .agg (keyL K).toArray), (1, .agg (plC pl).toArray)] (by rfl) _ BF.out ?_; simp only [Act.put, List.setIfInBounds_toArray, List.set_cons_zero, List.set_cons_succ])
    | ((with_reducible show wpList _ _ _ (_ :: _) _ _); refine wpl_alloc rfl 130 rfl Tryz.zeroValue130 36 rfl ?_; intro w3 cs3 hk hc hg hz; have K3 := Lib.hid hk; have C3 := Lib.hid hc; have L3 := Lib.hid (bl_n (Below.refl _ w2) hg); clear hk hc hg hz; simp only [Act.put, List.setIfInBounds_toArray, List.set_cons_zero, List.set_cons_succ])
    | ((with_reducible show wpList _ _ _ (_ :: _) _ _); refine wpl_over rfl 130 (.tmp 2) (.tmp 8) rfl w2.heap.size (frC fr) rfl rfl _ cs3 K3.out (frC_info fr) (by rw [C3.out, frC_len]) (frC_one fr) ?_; intro w4 hk hg hz; have K4 := Lib.hid hk; have L4 := Lib.hid (bl_g L3.out hg (Nat.le_refl _)); clear hk hg hz; simp only [Act.put, List.setIfInBounds_toArray, List.set_cons_zero, List.set_cons_succ]))
  have R4 := Lib.hid (show w4.rangeAt w0.heap.size 0 (keyL K) by have := (K2.out.below L4.out K2.out.lt).range; rwa [toArr] at this)
  go_upto_region 4 with (first
    | ((with_reducible show wpList _ _ _ (_ :: _) _ _); refine wpList_load_mid rfl 50 (.tmp 1) rfl w0.heap.size 0 rfl (keyL K) _ R4.out Tryz.underlying50 rfl (keyL_info K) ?_; simp only [Act.put, List.setIfInBounds_toArray, List.set_cons_zero, List.set_cons_succ])
    | ((with_reducible show wpList _ _ _ (_ :: _) _ _); refine wpl_mk rfl 54 #[(0, .tmp 9), (2, .const (.int .i64 255))] (by rfl) [(0, .agg (keyL K).toArray), (2, .int .i64 255)] (by rfl) _ BS0.out ?_; simp only [Act.put, List.setIfInBounds_toArray, List.set_cons_zero, List.set_cons_succ])
    | ((with_reducible show wpList _ _ _ (_ :: _) _ _); refine wpl_mk rfl 132 #[(0, .const (.int .i64 0)), (1, .tmp 10)] (by rfl) [(0, .int .i64 0), (1, .agg (slC s0).toArray)] (by rfl) _ BP0.out ?_; simp only [Act.put, List.setIfInBounds_toArray, List.set_cons_zero, List.set_cons_succ])
    | ((with_reducible show wpList _ _ _ (_ :: _) _ _); refine wpl_alloc rfl 132 rfl Tryz.zeroValue132 35 rfl ?_; intro w5 cs5 hk hc hg hz; have K5 := Lib.hid hk; have C5 := Lib.hid hc; have L5 := Lib.hid (bl_n (Below.refl _ w4) hg); clear hk hc hg hz; simp only [Act.put, List.setIfInBounds_toArray, List.set_cons_zero, List.set_cons_succ])
    | ((with_reducible show wpList _ _ _ (_ :: _) _ _); refine wpl_over rfl 132 (.tmp 3) (.tmp 11) rfl w4.heap.size (puC p0) rfl rfl _ cs5 K5.out (puC_info p0) (by rw [C5.out, puC_len]) (puC_one p0) ?_; intro w6 hk hg hz; have K6 := Lib.hid hk; have L6 := Lib.hid (bl_g L5.out hg (Nat.le_refl _)); clear hk hg hz; simp only [Act.put, List.setIfInBounds_toArray, List.set_cons_zero, List.set_cons_succ]))
  have L46 := Lib.hid (below_chain L4.out L6.out)
  have R6 := Lib.hid (show w6.rangeAt w0.heap.size 0 (keyL K) by have := (K2.out.below L46.out K2.out.lt).range; rwa [toArr] at this)
  go_upto_region 5 with (first
    | ((with_reducible show wpList _ _ _ (_ :: _) _ _); refine wpList_load_mid rfl 50 (.tmp 1) rfl w0.heap.size 0 rfl (keyL K) _ R6.out Tryz.underlying50 rfl (keyL_info K) ?_; simp only [Act.put, List.setIfInBounds_toArray, List.set_cons_zero, List.set_cons_succ])
    | ((with_reducible show wpList _ _ _ (_ :: _) _ _); refine wpl_mk rfl 54 #[(0, .tmp 12), (1, .const (.int .i64 1)), (2, .const (.int .i64 15))] (by rfl) [(0, .agg (keyL K).toArray), (1, .int .i64 1), (2, .int .i64 15)] (by rfl) _ BS1.out ?_; simp only [Act.put, List.setIfInBounds_toArray, List.set_cons_zero, List.set_cons_succ])
    | ((with_reducible show wpList _ _ _ (_ :: _) _ _); refine wpl_mk rfl 132 #[(0, .const (.int .i64 1)), (1, .tmp 13)] (by rfl) [(0, .int .i64 1), (1, .agg (slC s1).toArray)] (by rfl) _ BP1.out ?_; simp only [Act.put, List.setIfInBounds_toArray, List.set_cons_zero, List.set_cons_succ])
    | ((with_reducible show wpList _ _ _ (_ :: _) _ _); refine wpl_alloc rfl 132 rfl Tryz.zeroValue132 35 rfl ?_; intro w7 cs7 hk hc hg hz; have K7 := Lib.hid hk; have C7 := Lib.hid hc; have L7 := Lib.hid (bl_n (Below.refl _ w6) hg); clear hk hc hg hz; simp only [Act.put, List.setIfInBounds_toArray, List.set_cons_zero, List.set_cons_succ])
    | ((with_reducible show wpList _ _ _ (_ :: _) _ _); refine wpl_over rfl 132 (.tmp 4) (.tmp 14) rfl w6.heap.size (puC p1) rfl rfl _ cs7 K7.out (puC_info p1) (by rw [C7.out, puC_len]) (puC_one p1) ?_; intro w8 hk hg hz; have K8 := Lib.hid hk; have L8 := Lib.hid (bl_g L7.out hg (Nat.le_refl _)); clear hk hg hz; simp only [Act.put, List.setIfInBounds_toArray, List.set_cons_zero, List.set_cons_succ]))
  have L48 := Lib.hid (below_chain L6.out L8.out)
  have R8 := Lib.hid (show w8.rangeAt w2.heap.size 0 (frC fr) by have := (K4.out.below L48.out K4.out.lt).range; rwa [toArr] at this)
  have Q8 := Lib.hid (show w8.rangeAt w4.heap.size 0 (puC p0) by have := (K6.out.below L8.out K6.out.lt).range; rwa [toArr] at this)
  have S8 := Lib.hid (show w8.rangeAt w6.heap.size 0 (puC p1) by have := K8.out.range; rwa [toArr] at this)
  have L08 := Lib.hid (below_chain (below_chain L2.out L4.out) L48.out)
  have K0' := Lib.hid (K0.out.below L08.out K0.out.lt)
  have L0w := Lib.hid (below_chain L0.out L08.out)
  go_wp2_with (first
    | ((with_reducible show wpList _ _ _ (_ :: _) _ _); refine wpList_load_mid rfl 130 (.tmp 2) rfl w2.heap.size 0 rfl (frC fr) _ R8.out Tryz.underlying130 rfl (frC_info fr) ?_; simp only [Act.put, List.setIfInBounds_toArray, List.set_cons_zero, List.set_cons_succ])
    | ((with_reducible show wpList _ _ _ (_ :: _) _ _); refine wpl_lit1 rfl 32 130 (.tmp 15) rfl (frC fr) rfl Tryz.underlying32 (by rw [frC_len]; exact info_Fr) (by rw [frC_len]; exact zero_Fr_len) (by rw [frC_len]; omega) (by rw [frC_len]; omega) ?_; intro w9 hk hg hz; have K9 := Lib.hid hk; have L9 := Lib.hid (bl_n (Below.refl _ w8) hg); clear hk hg hz; have Q9 := Lib.hid (show w9.rangeAt w4.heap.size 0 (puC p0) by have := ((K6.out.below L8.out K6.out.lt).below L9.out (K6.out.below L8.out K6.out.lt).lt).range; rwa [toArr] at this); have S9 := Lib.hid (show w9.rangeAt w6.heap.size 0 (puC p1) by have := (K8.out.below L9.out K8.out.lt).range; rwa [toArr] at this); simp only [Act.put, List.setIfInBounds_toArray, List.set_cons_zero, List.set_cons_succ])
    | ((with_reducible show wpList _ _ _ (_ :: _) _ _); refine wpList_load_mid rfl 132 (.tmp 3) rfl w4.heap.size 0 rfl (puC p0) _ Q9.out Tryz.underlying132 rfl (puC_info p0) ?_; simp only [Act.put, List.setIfInBounds_toArray, List.set_cons_zero, List.set_cons_succ])
    | ((with_reducible show wpList _ _ _ (_ :: _) _ _); refine wpList_load_mid rfl 132 (.tmp 4) rfl w6.heap.size 0 rfl (puC p1) _ S9.out Tryz.underlying132 rfl (puC_info p1) ?_; simp only [Act.put, List.setIfInBounds_toArray, List.set_cons_zero, List.set_cons_succ])
    | ((with_reducible show wpList _ _ _ (_ :: _) _ _); refine wpl_lit2 rfl 33 132 (.tmp 17) (.tmp 18) rfl (puC p0) (puC p1) (by rw [puC_len, puC_len]) (.agg (puC p0).toArray) (.agg (puC p1).toArray) (by rfl) (by simp [Value.cells]) (by rfl) (by simp [Value.cells]) Tryz.underlying33 (by rw [puC_len]; exact info_Pu) (by rw [puC_len]; exact zero_Pu_len) (by rw [puC_len]; omega) (by rw [puC_len]; omega) ?_; intro w10 hk hg hz; have K10 := Lib.hid hk; have L10 := Lib.hid (bl_n (Below.refl _ w9) hg); clear hk hg hz; simp only [Act.put, List.setIfInBounds_toArray, List.set_cons_zero, List.set_cons_succ])
    | ((with_reducible show wpList _ _ _ (_ :: _) _ _); refine wpl_mk rfl 35 #[(0, .const (.int .u8 1)), (4, .tmp 16), (5, .tmp 19)] (by rfl) [(0, .int .u8 1), (4, .slice (some ⟨w8.heap.size, 0, none⟩) 1 1), (5, .slice (some ⟨w9.heap.size, 0, none⟩) 2 2)] (by rfl) _ (BO.out _ _) ?_; simp only [Act.put, List.setIfInBounds_toArray, List.set_cons_zero, List.set_cons_succ])
    | ((with_reducible show wpList _ _ _ (_ :: _) _ _); refine wpl_over rfl 35 (.tmp 0) (.tmp 20) rfl w.heap.size (opC o (some ⟨w8.heap.size, 0, none⟩) 1 (some ⟨w9.heap.size, 0, none⟩) 2) rfl rfl _ cs0 (K0'.out.below (below_chain L9.out L10.out) K0'.out.lt) (opC_info _ _ _ _ _) (by rw [C0.out]; rfl) (opC_one _ _ _ _ _) ?_; intro w11 hk hg hz; have K11 := Lib.hid hk; have G11 := Lib.hid hg; clear hk hg hz; simp only [Act.put, List.setIfInBounds_toArray, List.set_cons_zero, List.set_cons_succ]))
  have hL : Below w.heap.size w w10 := below_chain L0w.out (below_chain L9.out L10.out)
  have h8 := L0w.out.size
  have h9 := L9.out.size
  have hne8 : w8.heap.size ≠ w.heap.size := by have := K0'.out.lt; omega
  have hne9 : w9.heap.size ≠ w.heap.size := by have := K0'.out.lt; omega
  have K9' := (K9.out.below L10.out K9.out.lt).grown G11.out (by simpa using hne8)
  have K10' := K10.out.grown G11.out (by simpa using hne9)
  refine bodyPost_ret (results_blk rfl _ w.heap.size rfl _ _ K11.out _ Tryz.underlying35 rfl 6 (by kernel_rfl) rfl) rfl ?_
  refine ⟨_, _, _, _, rfl, ⟨?_, ?_⟩, fun T hT => off_new hT h8, fun T hT => off_new hT (Nat.le_trans h8 h9), bl_g hL G11.out (Nat.le_refl _)⟩
  · have hn := HN.out
    have := src_blk (m := 1) (c := 1) (size := 36) K9' (by simp [frC_len])
    rw [hn]
    have e : frsC [fr] = frC fr := by simp [frsC]
    rw [e]
    simpa using this
  · have hn := HP.out
    have := src_blk (m := 2) (c := 2) (size := 35) K10' (by simp [puC_len])
    rw [hn]
    have e : pusC [p0, p1] = puC p0 ++ puC p1 := by simp [pusC]
    rw [e]
    simpa using this
theorem lw_write (w : World) : Calls Tryz.prog 33 #[] w (OpMade wOp w) :=
  lw_gen w wK wPl wFr wS0 wS1 wP0 wP1 wOp (Lib.hid built_k9) (Lib.hid built_wPl) (Lib.hid built_wFr) (Lib.hid built_wS0) (Lib.hid built_wS1) (Lib.hid built_wP0) (Lib.hid built_wP1) (Lib.hid built_wOp) (Lib.hid rfl) (Lib.hid rfl)
end Go.Proofs.YtgjjdfhoakailaaGreat
