/-
  index: Add: walked.
-/
import Derived.Test.YtgjjdfhoakailaaGreatStX1
namespace Go.Proofs.YtgjjdfhoakailaaGreat
open Go.RowKit Go.Maps
set_option linter.unusedVariables false
set_option linter.unusedSimpArgs false

theorem IdxIs.put {w w' : World} {xi bx : Nat} {E E' : ExM} (h : IdxIs w xi bx E) (hm : MapIs Tryz.prog 50 vKey klK vPl w' bx E') (hg : w.grownBy w' (some bx)) : IdxIs w' xi bx E' :=
  ⟨h.blk.grown hg (by have := blk_ne_map h.map h.blk; simp; exact this), hm⟩
theorem tch_own {w w' : World} {b : Nat} (hg : w.grownBy w' (some b)) : Tch [b] w w' := Tch.grown hg (fun k hk => by injection hk with hk; subst hk; exact .inl (by simp))
def addE (E : ExM) (K : Key) (p : Pl) : Int := if mayP p = false then 2 else if (aget E K).isSome then 7 else 0
def addX (E : ExM) (K : Key) (p : Pl) : ExM := if addE E K p = 0 then aput E K p else E
def AddPost (xi bx : Nat) (E : ExM) (K : Key) (p : Pl) (w : World) (e : Ending) (w' : World) : Prop := e = .returned (.int .i64 (addE E K p)) ∧ IdxIs w' xi bx (addX E K p) ∧ Tch [bx] w w'
set_option maxRecDepth 100000 in
set_option maxHeartbeats 1000000 in
theorem x_add {w : World} {xi bx : Nat} {E : ExM} (h : IdxIs w xi bx E) (K : Key) (p : Pl) (hE : E.length ≤ 1000000000) : Calls Tryz.prog 82 #[.pointer (some ⟨xi, 0, none⟩), .agg (keyL K).toArray, .agg (plC p).toArray] w (AddPost xi bx E K p w) := by
  have H := Lib.hid h
  have HE := Lib.hid (show E.length < maxLen by unfold maxLen; omega)
  clear h hE
  obtain ⟨bm, hbm⟩ : ∃ b, b = mayP p := ⟨_, rfl⟩
  have CM := Lib.hid (fun W => may_x p W)
  rw [← hbm] at CM
  have HBm := Lib.hid hbm
  clear hbm
  go_enter Tryz.func82, Tryz.ntmps82
  go_upto_region 1 with (first
    | ((with_reducible show wpList _ _ _ (_ :: _) _ _); refine wpl_box rfl 50 (.tmp 1) rfl _ rfl ?_; intro w1 hk hg hz; have K1 := Lib.hid hk; have G1 := Lib.hid hg; have Z1 := Lib.hid hz; clear hk hg hz)
    | ((with_reducible show wpList _ _ _ (_ :: _) _ _); refine wpl_box rfl 52 (.tmp 2) rfl _ rfl ?_; intro w2 hk hg hz; have K2 := Lib.hid hk; have G2 := Lib.hid hg; clear hk hg hz))
  have L2 := Lib.hid (bl_n (bl_n (Below.refl _ _) G1.out) G2.out)
  have H2 := Lib.hid (H.out.below L2.out)
  have B2 := Lib.hid (K1.out.grown G2.out (by simp))
  have R2 := Lib.hid (show w2.rangeAt w1.heap.size 0 (plC p) by have := K2.out.range; rwa [toArr] at this)
  go_wp2_with (first
    | (go_at_call 65; refine (x_there H2.out).mono ?_; rintro e w3 ⟨rfl, rfl⟩)
    | ((with_reducible show wpList _ _ _ (_ :: _) _ _); refine wpList_load_mid rfl 52 (.tmp 5) rfl w1.heap.size 0 rfl (plC p) _ R2.out Tryz.underlying52 rfl (plC_info p) ?_)
    | fail)
  refine (CM.out _).mono ?_
  rintro e w3 ⟨rfl, hb⟩
  have L3 := Lib.hid hb
  clear hb
  have L3a := Lib.hid (below_chain L2.out L3.out)
  have H3 := Lib.hid (H.out.below L3a.out)
  cases bm
  · go_wp2_with fail
    go_ret
    unfold AddPost addX
    rw [show addE E K p = 2 from if_pos HBm.out.symm, if_neg (by decide)]
    exact ⟨rfl, H3.out, Tch.below L3a.out⟩
  have B3 := Lib.hid (B2.out.below L3.out B2.out.lt)
  have P3 := Lib.hid (K2.out.below L3.out K2.out.lt)
  have R3 := Lib.hid (show w3.rangeAt w.heap.size 0 (keyL K) by have := B3.out.range; rwa [toArr] at this)
  clear R2 B2 K1 G1 K2 G2 H2 L2
  obtain ⟨q, hq⟩ : ∃ q, q = (aget E K).getD zPl := ⟨_, rfl⟩
  obtain ⟨bb, hbb⟩ : ∃ b, b = (aget E K).isSome := ⟨_, rfl⟩
  have HV := Lib.hid (show (Value.tuple #[((aget E K).map vPl).getD (vPl zPl), .bool (aget E K).isSome]) = .tuple #[.agg (plC q).toArray, .bool bb] by rw [hq, hbb]; cases aget E K <;> rfl)
  have HBb := Lib.hid hbb
  clear hq hbb
  go_wp2_with fail
  refine wp_region_qs (fun _ w' => (w'.cell? ⟨xi, 0, none⟩ = some (.map (some bx)) ∧ w'.rangeAt w.heap.size 0 (keyL K)) ∧ MapIs Tryz.prog 50 vKey klK vPl w' bx E) [(0, some 1), (1, some 1), (2, some 1), (3, some 1), (4, some 1), (5, some 1), (6, some 1), (7, some 1), (8, some 2), (9, none), (10, none), (11, some 2)] (by kernel_rfl) (by kernel_rfl) (by kernel_rfl) (by kernel_rfl) (by kernel_rfl) (fun _ _ _ _ _ h => h) ⟨⟨H3.out.drew.cell, R3.out⟩, H3.out.drew.map⟩ ?_
  simp only [List.map_cons, List.map_nil, List.getD_cons_succ, List.getD_cons_zero]
  (repeat (first | ((first | (refine qs_row (by rfl) 50 (.tmp 4) rfl w.heap.size 0 rfl (keyL K) _ (fun j w' _ _ h => h.1.2) Tryz.underlying50 rfl (keyL_info K) ?_) | (refine qs_mlookOk (by rfl) 101 (.tmp 21) (.tmp 22) rfl keyed_key Tryz.underlying101 rfl K rfl zero_Pl (fun j w' _ _ h => h.2) (klK_inj' K) (keyOf_key K) ?_; rewrite [HV.out])); simp only [Act.put, List.setIfInBounds_toArray, List.set_cons_zero, List.set_cons_succ]) | (refine qs_now (v := ?_) (by rfl) ?_ ?_; rotate_left 1; (· (intro w' hS; go_simp; (try (simp only [↓IntWalk.iteOmega]; go_simp)); (try simp (disch := omega) only [IntWalk.i64_in]); try with_reducible rfl)); simp only [Act.put, List.setIfInBounds_toArray, List.set_cons_zero, List.set_cons_succ]) | (refine qs_run (v := ?_) (by rfl) ?_ ?_; rotate_left 1; (· (intro j w' hS; go_simp; (try (simp only [↓IntWalk.iteOmega]; go_simp)); (try simp (disch := omega) only [IntWalk.i64_in]); try with_reducible rfl)); simp only [Act.put, List.setIfInBounds_toArray, List.set_cons_zero, List.set_cons_succ]) | (refine qs_skip (by rfl) ?_; simp only [Act.put, List.setIfInBounds_toArray, List.set_cons_zero, List.set_cons_succ])))
  refine qs_act ?_
  go_wp2_with ((with_reducible show wpList _ _ _ (_ :: _) _ _); refine wpl_alloc rfl 52 rfl Tryz.zeroValue52 4 rfl ?_; intro w4 cs4 hk hc hg hz; have K4 := Lib.hid hk; have C4 := Lib.hid hc; have G4 := Lib.hid hg; clear hk hc hg hz)
  have L4 := Lib.hid (show Below w3.heap.size w3 w4 from bl_n (Below.refl _ _).drew G4.out)
  have H4 := Lib.hid (H3.out.below L4.out)
  have R4 := Lib.hid (show w4.rangeAt w.heap.size 0 (keyL K) by have := (B3.out.below L4.out B3.out.lt).range; rwa [toArr] at this)
  refine ⟨⟨⟨H4.out.cell, R4.out⟩, H4.out.map⟩, ?_⟩
  refine qs_act ?_
  go_wp2_with ((with_reducible show wpList _ _ _ (_ :: _) _ _); refine wpl_over rfl 52 (.tmp 7) (.tmp 24) rfl w3.heap.size (plC q) rfl rfl _ cs4 K4.out (plC_info q) (by rw [C4.out]; rfl) (plC_one q) ?_; intro w5 hk hg hz; have K5 := Lib.hid hk; have G5 := Lib.hid hg; clear hk hg hz)
  have L5 := Lib.hid (show Below w3.heap.size w3 w5 from bl_g L4.out G5.out (Nat.le_refl _))
  have H5 := Lib.hid (H3.out.below L5.out)
  have B5 := Lib.hid (B3.out.below L5.out B3.out.lt)
  have P5 := Lib.hid (P3.out.below L5.out P3.out.lt)
  have R5 := Lib.hid (show w5.rangeAt w.heap.size 0 (keyL K) by have := B5.out.range; rwa [toArr] at this)
  have Q5 := Lib.hid (show w5.rangeAt w1.heap.size 0 (plC p) by have := P5.out.range; rwa [toArr] at this)
  refine ⟨⟨⟨H5.out.cell, R5.out⟩, H5.out.map⟩, ?_⟩
  (repeat (first | (refine qs_now (v := ?_) (by rfl) ?_ ?_; rotate_left 1; (· (intro w' hS; go_simp; (try (simp only [↓IntWalk.iteOmega]; go_simp)); (try simp (disch := omega) only [IntWalk.i64_in]); try with_reducible rfl)); simp only [Act.put, List.setIfInBounds_toArray, List.set_cons_zero, List.set_cons_succ]) | (refine qs_run (v := ?_) (by rfl) ?_ ?_; rotate_left 1; (· (intro j w' hS; go_simp; (try (simp only [↓IntWalk.iteOmega]; go_simp)); (try simp (disch := omega) only [IntWalk.i64_in]); try with_reducible rfl)); simp only [Act.put, List.setIfInBounds_toArray, List.set_cons_zero, List.set_cons_succ]) | (refine qs_skip (by rfl) ?_; simp only [Act.put, List.setIfInBounds_toArray, List.set_cons_zero, List.set_cons_succ])))
  refine qs_nil ?_
  have L8 := Lib.hid (below_chain L3a.out L5.out)
  clear L3 L3a H3 B3 P3 R3 K4 C4 G4 L4 H4 R4 K5 G5 L5
  cases bb
  · go_wp2_with fail
    refine wp_region_qs (fun j0 w' => j0 ≤ 0 → (w'.cell? ⟨xi, 0, none⟩ = some (.map (some bx)) ∧ w'.rangeAt w.heap.size 0 (keyL K)) ∧ w'.rangeAt w1.heap.size 0 (plC p)) [(0, some 0), (1, some 0), (2, some 0), (3, some 0), (4, some 0), (5, some 0), (6, none)] (by kernel_rfl) (by kernel_rfl) (by kernel_rfl) (by kernel_rfl) (by kernel_rfl) (fun _ _ _ _ _ h => h) (fun _ => ⟨⟨H5.out.drew.cell, R5.out⟩, Q5.out⟩) ?_
    simp only [List.map_cons, List.map_nil, List.getD_cons_succ, List.getD_cons_zero]
    (repeat (first | ((first | (refine qs_row (by rfl) 50 (.tmp 4) rfl w.heap.size 0 rfl (keyL K) _ (fun j w' _ h2 h => (h h2).1.2) Tryz.underlying50 rfl (keyL_info K) ?_) | (refine qs_row (by rfl) 52 (.tmp 5) rfl w1.heap.size 0 rfl (plC p) _ (fun j w' _ h2 h => (h h2).2) Tryz.underlying52 rfl (plC_info p) ?_) | (refine qs_mid (v := .map (some bx)) (by rfl) ?_ ?_; rotate_left 1; (· (intro j w' h1 h2 h; have h3 := (h h2).1.1; clear h; go_simp; done)))); simp only [Act.put, List.setIfInBounds_toArray, List.set_cons_zero, List.set_cons_succ]) | (refine qs_now (v := ?_) (by rfl) ?_ ?_; rotate_left 1; (· (intro w' hS; go_simp; (try (simp only [↓IntWalk.iteOmega]; go_simp)); (try simp (disch := omega) only [IntWalk.i64_in]); try with_reducible rfl)); simp only [Act.put, List.setIfInBounds_toArray, List.set_cons_zero, List.set_cons_succ]) | (refine qs_run (v := ?_) (by rfl) ?_ ?_; rotate_left 1; (· (intro j w' hS; go_simp; (try (simp only [↓IntWalk.iteOmega]; go_simp)); (try simp (disch := omega) only [IntWalk.i64_in]); try with_reducible rfl)); simp only [Act.put, List.setIfInBounds_toArray, List.set_cons_zero, List.set_cons_succ]) | (refine qs_mid (v := ?_) (by rfl) ?_ ?_; rotate_left 1; (· (intro j w' hj1 hj2 hS; go_simp; (try (simp only [↓IntWalk.iteOmega]; go_simp)); (try simp (disch := omega) only [IntWalk.i64_in]); try with_reducible rfl)); simp only [Act.put, List.setIfInBounds_toArray, List.set_cons_zero, List.set_cons_succ]) | (refine qs_skip (by rfl) ?_; simp only [Act.put, List.setIfInBounds_toArray, List.set_cons_zero, List.set_cons_succ])))
    refine qs_act ?_
    go_wp2_with ((with_reducible show wpList _ _ _ (_ :: _) _ _); refine wpl_mput rfl 101 (.tmp 30) (.tmp 31) (.tmp 32) rfl keyed_key Tryz.underlying101 H5.out.drew.map HE.out rfl K rfl p rfl (klK_inj' K) (keyOf_key K) ?_; intro w6 hm hg; have M6 := Lib.hid hm; have G6 := Lib.hid hg; clear hm hg)
    refine ⟨fun h => absurd h (by omega), ?_⟩
    refine qs_nil ?_
    go_wp2_with fail
    go_ret
    unfold AddPost addX
    rw [show addE E K p = 0 by unfold addE; rw [if_neg (by rw [← HBm.out]; decide), if_neg (by rw [← HBb.out]; decide)], if_pos rfl]
    have G6' : w5.grownBy w6 (some bx) := ⟨G6.out.os, G6.out.tape, G6.out.output, G6.out.size, G6.out.block⟩
    exact ⟨rfl, H5.out.put M6.out G6', (Tch.below L8.out).trans (tch_own G6')⟩
  · go_wp2_with fail
    go_ret
    unfold AddPost addX
    rw [show addE E K p = 7 by unfold addE; rw [if_neg (by rw [← HBm.out]; decide), if_pos (by rw [← HBb.out])], if_neg (by decide)]
    exact ⟨rfl, H5.out, Tch.below L8.out⟩
end Go.Proofs.YtgjjdfhoakailaaGreat
