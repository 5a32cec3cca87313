/-
  index: turn, Want: walked.
-/
import Derived.Test.YtgjjdfhoakailaaGreatStX3
namespace Go.Proofs.YtgjjdfhoakailaaGreat
open Go.RowKit Go.Maps
set_option linter.unusedVariables false
set_option linter.unusedSimpArgs false

def turnE (E : ExM) (K : Key) (n : Int) : Int := match aget E K with
  | none => 6
  | some p => if wantIn p n then 0 else 2
def turnX (E : ExM) (K : Key) (n : Int) : ExM := match aget E K with
  | none => E
  | some p => if wantIn p n then aput E K (plAdd p n) else E
def turnG (E : ExM) (K : Key) (n : Int) : Bool := match aget E K with
  | none => false
  | some p => if wantIn p n then p.ref + n == 0 else false
def RefOk (E : ExM) : Prop := ∀ q ∈ E, 0 ≤ q.2.ref ∧ q.2.ref ≤ 2147483647
def TurnPost (xi bx c7 : Nat) (E : ExM) (K : Key) (n : Int) (w : World) (e : Ending) (w' : World) : Prop := e = .returned (.int .i64 (turnE E K n)) ∧ IdxIs w' xi bx (turnX E K n) ∧ Blk w' c7 4 #[.bool (turnG E K n)] ∧ Tch [bx, c7] w w'
set_option maxRecDepth 100000 in
set_option maxHeartbeats 1000000 in
theorem turn_any {w : World} {xi bx c5 c7 : Nat} {E : ExM} {K : Key} {n : Int} (h : IdxIs w xi bx E) (h5 : w.cell? ⟨c5, 0, none⟩ = some (.int .i64 n)) (h5l : c5 < w.heap.size) (h7 : Blk w c7 4 #[.bool false]) (hE : E.length ≤ 1000000000) (hR : RefOk E) (hn : -9223372036854775808 ≤ n ∧ n ≤ 9223372036854775807) :
    Calls Tryz.prog 69 #[.pointer (some ⟨xi, 0, none⟩), .agg (keyL K).toArray, .func (.func 70) #[] #[.pointer (some ⟨c5, 0, none⟩), .pointer (some ⟨c7, 0, none⟩)]] w (TurnPost xi bx c7 E K n w) := by
  have H := Lib.hid h
  have HC5 := Lib.hid h5
  have H7 := Lib.hid h7
  have HR := Lib.hid hR
  have HN := Lib.hid hn
  have HE := Lib.hid (show E.length < maxLen by unfold maxLen; omega)
  clear h h5 h7 hE hR hn
  obtain ⟨q, hq⟩ : ∃ p, p = (aget E K).getD zPl := ⟨_, rfl⟩
  obtain ⟨bb, hbb⟩ : ∃ b, b = (aget E K).isSome := ⟨_, rfl⟩
  have HV := Lib.hid (show (Value.tuple #[((aget E K).map vPl).getD (vPl zPl), .bool (aget E K).isSome]) = .tuple #[.agg (plC q).toArray, .bool bb] by rw [hq, hbb]; cases aget E K <;> rfl)
  have HQ := Lib.hid hq
  have HBb := Lib.hid hbb
  clear hq hbb
  go_enter Tryz.func69, Tryz.ntmps69
  go_upto_region 1 with ((with_reducible show wpList _ _ _ (_ :: _) _ _); refine wpl_box rfl 50 (.tmp 1) rfl _ rfl ?_; intro w2 hk hg hz; have B2 := Lib.hid hk; have G2 := Lib.hid hg; have Z2 := Lib.hid hz; clear hk hg hz)
  have L2 := Lib.hid (bl_n (Below.refl _ _) G2.out)
  have H2 := Lib.hid (H.out.below L2.out)
  have R2 := Lib.hid (show w2.rangeAt w.heap.size 0 (keyL K) by have := B2.out.range; rwa [toArr] at this)
  go_wp2_with (go_at_call 65; refine (x_there H2.out).mono ?_; rintro e w3 ⟨rfl, rfl⟩)
  refine wp_region_qs (fun _ w' => (w'.cell? ⟨xi, 0, none⟩ = some (.map (some bx)) ∧ w'.rangeAt w.heap.size 0 (keyL K)) ∧ MapIs Tryz.prog 50 vKey klK vPl w' bx E) [(0, some 1), (1, some 1), (2, some 1), (3, some 1), (4, some 1), (5, some 1), (6, some 1), (7, some 1), (8, some 2), (9, none), (10, none), (11, some 2)] (by kernel_rfl) (by kernel_rfl) (by kernel_rfl) (by kernel_rfl) (by kernel_rfl) (fun _ _ _ _ _ h => h) ⟨⟨H2.out.drew.cell, R2.out⟩, H2.out.drew.map⟩ ?_
  simp only [List.map_cons, List.map_nil, List.getD_cons_succ, List.getD_cons_zero]
  (repeat (first | ((first | (refine qs_row (by rfl) 50 (.tmp 4) rfl w.heap.size 0 rfl (keyL K) _ (fun j w' _ _ h => h.1.2) Tryz.underlying50 rfl (keyL_info K) ?_) | (refine qs_mlookOk (by rfl) 101 (.tmp 16) (.tmp 17) rfl keyed_key Tryz.underlying101 rfl K rfl zero_Pl (fun j w' _ _ h => h.2) (klK_inj' K) (keyOf_key K) ?_; rewrite [HV.out])); simp only [Act.put, List.setIfInBounds_toArray, List.set_cons_zero, List.set_cons_succ]) | (refine qs_now (v := ?_) (by rfl) ?_ ?_; rotate_left 1; (· (intro w' hS; go_simp; (try (simp only [↓IntWalk.iteOmega]; go_simp)); (try simp (disch := omega) only [IntWalk.i64_in]); try with_reducible rfl)); simp only [Act.put, List.setIfInBounds_toArray, List.set_cons_zero, List.set_cons_succ]) | (refine qs_run (v := ?_) (by rfl) ?_ ?_; rotate_left 1; (· (intro j w' hS; go_simp; (try (simp only [↓IntWalk.iteOmega]; go_simp)); (try simp (disch := omega) only [IntWalk.i64_in]); try with_reducible rfl)); simp only [Act.put, List.setIfInBounds_toArray, List.set_cons_zero, List.set_cons_succ]) | (refine qs_skip (by rfl) ?_; simp only [Act.put, List.setIfInBounds_toArray, List.set_cons_zero, List.set_cons_succ])))
  refine qs_act ?_
  go_wp2_with ((with_reducible show wpList _ _ _ (_ :: _) _ _); refine wpl_alloc rfl 52 rfl Tryz.zeroValue52 4 rfl ?_; intro w4 cs4 hk hc hg hz; have K4 := Lib.hid hk; have C4 := Lib.hid hc; have G4 := Lib.hid hg; clear hk hc hg hz)
  have L4 := Lib.hid (show Below w2.heap.size w2 w4 from bl_n (Below.refl _ _).drew G4.out)
  have H4 := Lib.hid (H2.out.below L4.out)
  have R4 := Lib.hid (show w4.rangeAt w.heap.size 0 (keyL K) by have := (B2.out.below L4.out B2.out.lt).range; rwa [toArr] at this)
  refine ⟨⟨⟨H4.out.cell, R4.out⟩, H4.out.map⟩, ?_⟩
  refine qs_act ?_
  go_wp2_with ((with_reducible show wpList _ _ _ (_ :: _) _ _); refine wpl_over rfl 52 (.tmp 7) (.tmp 19) rfl w2.heap.size (plC q) rfl rfl _ cs4 K4.out (plC_info q) (by rw [C4.out]; rfl) (plC_one q) ?_; intro w5 hk hg hz; have K5 := Lib.hid hk; have G5 := Lib.hid hg; clear hk hg hz)
  have L5 := Lib.hid (show Below w2.heap.size w2 w5 from bl_g L4.out G5.out (Nat.le_refl _))
  have H5 := Lib.hid (H2.out.below L5.out)
  have B5 := Lib.hid (B2.out.below L5.out B2.out.lt)
  have R5 := Lib.hid (show w5.rangeAt w.heap.size 0 (keyL K) by have := B5.out.range; rwa [toArr] at this)
  refine ⟨⟨⟨H5.out.cell, R5.out⟩, H5.out.map⟩, ?_⟩
  (repeat (first | (refine qs_now (v := ?_) (by rfl) ?_ ?_; rotate_left 1; (· (intro w' hS; go_simp; (try (simp only [↓IntWalk.iteOmega]; go_simp)); (try simp (disch := omega) only [IntWalk.i64_in]); try with_reducible rfl)); simp only [Act.put, List.setIfInBounds_toArray, List.set_cons_zero, List.set_cons_succ]) | (refine qs_run (v := ?_) (by rfl) ?_ ?_; rotate_left 1; (· (intro j w' hS; go_simp; (try (simp only [↓IntWalk.iteOmega]; go_simp)); (try simp (disch := omega) only [IntWalk.i64_in]); try with_reducible rfl)); simp only [Act.put, List.setIfInBounds_toArray, List.set_cons_zero, List.set_cons_succ]) | (refine qs_skip (by rfl) ?_; simp only [Act.put, List.setIfInBounds_toArray, List.set_cons_zero, List.set_cons_succ])))
  refine qs_nil ?_
  have L8 := Lib.hid (below_chain L2.out L5.out)
  have C75 := Lib.hid (H7.out.below L8.out H7.out.lt)
  have C55 := Lib.hid (show w5.cell? ⟨c5, 0, none⟩ = some (.int .i64 n) by rw [L8.out.cell (p := ⟨c5, 0, none⟩) h5l]; exact HC5.out)
  clear K4 C4 G4 L4 H4 R4 G5 L5
  cases bb
  · have hnone : aget E K = none := by have := HBb.out; cases h : aget E K with
      | none => rfl
      | some p => rw [h] at this; cases this
    have HNo := Lib.hid hnone
    clear hnone
    go_wp2_with fail
    go_ret
    unfold TurnPost turnE turnX turnG
    rw [HNo.out]
    exact ⟨rfl, H5.out, C75.out, Tch.below L8.out⟩
  · have hsome : aget E K = some q := by have := HBb.out; have e := HQ.out; cases h : aget E K with
      | none => rw [h] at this; cases this
      | some p => rw [h] at e; rw [e]; rfl
    have HSo := Lib.hid hsome
    have hqr := HR.out _ (aget_mem hsome)
    have HQr := Lib.hid hqr
    clear hsome hqr
    go_wp2_with fail
    refine (want1_any K5.out C55.out C75.out HQr.out HN.out).mono ?_
    rintro e w6 ⟨hT, hcase⟩
    have T6 := Lib.hid hT
    clear hT
    have HAp := Lib.hid (show xi ∉ [w2.heap.size, c7] ∧ bx ∉ [w2.heap.size, c7] ∧ w.heap.size ∉ [w2.heap.size, c7] ∧ bx ≠ c7 by
      have h1 := H.out.blk.lt
      have h2 := H.out.map.lt
      have h3 := H7.out.lt
      have h4 := Z2.out
      have h5 := blk_ne_ty H.out.blk H7.out (by decide)
      have h6 := blk_ne_map H.out.map H7.out
      simp
      omega)
    rcases hcase with ⟨hin, rfl, hB, h7⟩ | ⟨hout, rfl, hb⟩
    · have H6 := Lib.hid (H5.out.tch T6.out HAp.out.1 HAp.out.2.1)
      have B6 := Lib.hid (B5.out.tch T6.out HAp.out.2.2.1)
      have R6 := Lib.hid (show w6.rangeAt w.heap.size 0 (keyL K) by have := B6.out.range; rwa [toArr] at this)
      have P6 := Lib.hid (show w6.rangeAt w2.heap.size 0 (plC (plAdd q n)) by have := hB.range; rwa [toArr] at this)
      have HIn := Lib.hid hin
      have C76 := Lib.hid h7
      clear hin hB h7
      go_wp2_with fail
      refine wp_region_qs (fun j0 w' => j0 ≤ 0 → (w'.cell? ⟨xi, 0, none⟩ = some (.map (some bx)) ∧ w'.rangeAt w.heap.size 0 (keyL K)) ∧ w'.rangeAt w2.heap.size 0 (plC (plAdd q n))) [(0, some 0), (1, some 0), (2, some 0), (3, some 0), (4, some 0), (5, some 0), (6, none)] (by kernel_rfl) (by kernel_rfl) (by kernel_rfl) (by kernel_rfl) (by kernel_rfl) (fun _ _ _ _ _ h => h) (fun _ => ⟨⟨H6.out.drew.cell, R6.out⟩, P6.out⟩) ?_
      simp only [List.map_cons, List.map_nil, List.getD_cons_succ, List.getD_cons_zero]
      (repeat (first | ((first | (refine qs_row (by rfl) 50 (.tmp 4) rfl w.heap.size 0 rfl (keyL K) _ (fun j w' _ h2 h => (h h2).1.2) Tryz.underlying50 rfl (keyL_info K) ?_) | (refine qs_row (by rfl) 52 (.tmp 7) rfl w2.heap.size 0 rfl (plC (plAdd q n)) _ (fun j w' _ h2 h => (h h2).2) Tryz.underlying52 rfl (plC_info _) ?_) | (refine qs_mid (v := .map (some bx)) (by rfl) ?_ ?_; rotate_left 1; (· (intro j w' h1 h2 h; have h3 := (h h2).1.1; clear h; go_simp; done)))); simp only [Act.put, List.setIfInBounds_toArray, List.set_cons_zero, List.set_cons_succ]) | (refine qs_now (v := ?_) (by rfl) ?_ ?_; rotate_left 1; (· (intro w' hS; go_simp; (try (simp only [↓IntWalk.iteOmega]; go_simp)); (try simp (disch := omega) only [IntWalk.i64_in]); try with_reducible rfl)); simp only [Act.put, List.setIfInBounds_toArray, List.set_cons_zero, List.set_cons_succ]) | (refine qs_run (v := ?_) (by rfl) ?_ ?_; rotate_left 1; (· (intro j w' hS; go_simp; (try (simp only [↓IntWalk.iteOmega]; go_simp)); (try simp (disch := omega) only [IntWalk.i64_in]); try with_reducible rfl)); simp only [Act.put, List.setIfInBounds_toArray, List.set_cons_zero, List.set_cons_succ]) | (refine qs_mid (v := ?_) (by rfl) ?_ ?_; rotate_left 1; (· (intro j w' hj1 hj2 hS; go_simp; (try (simp only [↓IntWalk.iteOmega]; go_simp)); (try simp (disch := omega) only [IntWalk.i64_in]); try with_reducible rfl)); simp only [Act.put, List.setIfInBounds_toArray, List.set_cons_zero, List.set_cons_succ]) | (refine qs_skip (by rfl) ?_; simp only [Act.put, List.setIfInBounds_toArray, List.set_cons_zero, List.set_cons_succ])))
      refine qs_act ?_
      go_wp2_with ((with_reducible show wpList _ _ _ (_ :: _) _ _); refine wpl_mput rfl 101 (.tmp 29) (.tmp 30) (.tmp 31) rfl keyed_key Tryz.underlying101 H6.out.drew.map HE.out rfl K rfl (plAdd q n) rfl (klK_inj' K) (keyOf_key K) ?_; intro w7 hm hg; have M7 := Lib.hid hm; have G7 := Lib.hid hg; clear hm hg)
      refine ⟨fun h => absurd h (by omega), ?_⟩
      refine qs_nil ?_
      go_wp2_with fail
      go_ret
      unfold TurnPost turnE turnX turnG
      rw [HSo.out]
      simp only [HIn.out, if_true]
      have G7' : w6.grownBy w7 (some bx) := ⟨G7.out.os, G7.out.tape, G7.out.output, G7.out.size, G7.out.block⟩
      refine ⟨rfl, H6.out.put M7.out G7', C76.out.grown G7' (by have := HAp.out.2.2.2; simp; omega), ?_⟩
      exact (Tch.below L8.out).fresh ((T6.out.mono (T' := [bx, w2.heap.size, c7]) (fun k hk => List.mem_cons_of_mem _ hk)).trans ((tch_own G7').mono (fun k hk => by simp at hk; subst hk; simp))) (fun i hi => by have := Z2.out; simp at hi ⊢; omega)
    · have HOut := Lib.hid hout
      have L9 := Lib.hid hb
      clear hout hb
      go_wp2_with fail
      go_ret
      unfold TurnPost turnE turnX turnG
      rw [HSo.out]
      simp only [HOut.out, if_false]
      exact ⟨rfl, H5.out.below L9.out, C75.out.below L9.out C75.out.lt, Tch.below (below_chain L8.out L9.out)⟩
def wantX (E : ExM) (K : Key) (n : Int) : ExM := if turnG E K n then adel (turnX E K n) K else turnX E K n
def WantPost (xi bx : Nat) (E : ExM) (K : Key) (n : Int) (w : World) (e : Ending) (w' : World) : Prop := e = .returned (.int .i64 (turnE E K n)) ∧ IdxIs w' xi bx (wantX E K n) ∧ Tch [bx] w w'
set_option maxRecDepth 100000 in
set_option maxHeartbeats 1000000 in
theorem x_want {w : World} {xi bx : Nat} {E : ExM} (h : IdxIs w xi bx E) (K : Key) (n : Int) (hE : E.length ≤ 1000000000) (hR : RefOk E) (hn : -9223372036854775808 ≤ n ∧ n ≤ 9223372036854775807) :
    Calls Tryz.prog 24 #[.pointer (some ⟨xi, 0, none⟩), .agg (keyL K).toArray, .int .i64 n] w (WantPost xi bx E K n w) := by
  have H := Lib.hid h
  have HR := Lib.hid hR
  have HN := Lib.hid hn
  have HE := Lib.hid hE
  clear h hE hR hn
  go_enter Tryz.func24, Tryz.ntmps24
  go_upto_region 2 with ((with_reducible show wpList _ _ _ (_ :: _) _ _); refine wpl_box rfl 50 (.tmp 1) rfl _ rfl ?_; intro w2 hk hg hz; have B2 := Lib.hid hk; have G2 := Lib.hid hg; have Z2 := Lib.hid hz; clear hk hg hz)
  obtain ⟨w3, hw3⟩ : ∃ w3, w3 = (w2.alloc (Obj.cells #[Value.int .i64 n] 3)).alloc (Obj.cells #[Value.bool false] 4) := ⟨_, rfl⟩
  have L3 := Lib.hid (show Below w.heap.size w w3 by rw [hw3]; exact ((bl_n (Below.refl _ _) G2.out).alloc (bl_n (Below.refl _ _) G2.out).size _).alloc (by have := (bl_n (Below.refl w.heap.size w) G2.out).size; simp; omega) _)
  have L3' := Lib.hid (show Below w2.heap.size w2 w3 by rw [hw3]; exact ((Below.refl _ _).alloc (Nat.le_refl _) _).alloc (by simp) _)
  have B3 := Lib.hid (B2.out.below L3'.out B2.out.lt)
  have C5 := Lib.hid (show Blk w3 w2.heap.size 3 #[.int .i64 n] by rw [hw3]; exact (Blk.made _ _ _).alloc _)
  have C7 := Lib.hid (show Blk w3 (w2.heap.size + 1) 4 #[.bool false] by rw [hw3]; exact Blk.made_at _ _ _ (by simp))
  have H3 := Lib.hid (H.out.below L3.out)
  have R3 := Lib.hid (show w3.rangeAt w.heap.size 0 (keyL K) by have := B3.out.range; rwa [toArr] at this)
  rw [← hw3]
  clear hw3
  go_upto_region 3 with (first
    | ((with_reducible show wpList _ _ _ (_ :: _) _ _); refine wpList_load_mid rfl 50 (.tmp 4) rfl w.heap.size 0 rfl (keyL K) _ R3.out Tryz.underlying50 rfl (keyL_info K) ?_)
    | (go_at_call 69; refine (turn_any H3.out (C5.out.cell (i := 0) rfl) C5.out.lt C7.out HE.out HR.out HN.out).mono ?_; rintro e w4 ⟨rfl, h1, h2, h3⟩; have H4 := Lib.hid h1; have C74 := Lib.hid h2; have T4 := Lib.hid h3; clear h1 h2 h3)
    | fail)
  have c7 := C74.out.cell (i := 0) rfl
  have HAp := Lib.hid (show w.heap.size ∉ [bx, w2.heap.size + 1] ∧ ∀ w', Tch [bx] w4 w' → Tch [bx] w w' by
    have h2 := H.out.map.lt
    have h4 := Z2.out
    refine ⟨by simp; omega, fun w' hT => ?_⟩
    refine (Tch.below L3.out).fresh (T4.out.trans (hT.mono (T' := [bx, w2.heap.size + 1]) (fun k hk => by simp at hk; subst hk; simp))) (fun i hi => ?_)
    simp at hi ⊢
    omega)
  have B4 := Lib.hid (B3.out.tch T4.out HAp.out.1)
  have R4 := Lib.hid (show w4.rangeAt w.heap.size 0 (keyL K) by have := B4.out.range; rwa [toArr] at this)
  obtain ⟨bg, hbg⟩ : ∃ b, b = turnG E K n := ⟨_, rfl⟩
  rw [← hbg] at c7
  have HG := Lib.hid hbg
  clear hbg
  cases bg
  · go_wp2_with fail
    go_ret
    unfold WantPost wantX
    rw [← HG.out]
    exact ⟨rfl, H4.out, HAp.out.2 _ (Tch.refl _ _)⟩
  · go_wp2_with fail
    refine wp_region_qs (fun j0 w' => j0 ≤ 0 → w'.cell? ⟨xi, 0, none⟩ = some (.map (some bx)) ∧ w'.rangeAt w.heap.size 0 (keyL K)) [(0, some 1), (1, some 1), (2, some 1), (3, some 0), (4, some 0), (5, none)] (by kernel_rfl) (by kernel_rfl) (by kernel_rfl) (by kernel_rfl) (by kernel_rfl) (fun _ _ _ _ _ h => h) (fun _ => ⟨H4.out.drew.cell, R4.out⟩) ?_
    simp only [List.map_cons, List.map_nil, List.getD_cons_succ, List.getD_cons_zero]
    (repeat (first | ((first | (refine qs_row (by rfl) 50 (.tmp 4) rfl w.heap.size 0 rfl (keyL K) _ (fun j w' _ h2 h => (h h2).2) Tryz.underlying50 rfl (keyL_info K) ?_) | (refine qs_mid (v := .map (some bx)) (by rfl) ?_ ?_; rotate_left 1; (· (intro j w' h1 h2 h; have h3 := (h h2).1; clear h; go_simp; done)))); simp only [Act.put, List.setIfInBounds_toArray, List.set_cons_zero, List.set_cons_succ]) | (refine qs_now (v := ?_) (by rfl) ?_ ?_; rotate_left 1; (· (intro w' hS; go_simp; (try (simp only [↓IntWalk.iteOmega]; go_simp)); (try simp (disch := omega) only [IntWalk.i64_in]); try with_reducible rfl)); simp only [Act.put, List.setIfInBounds_toArray, List.set_cons_zero, List.set_cons_succ]) | (refine qs_run (v := ?_) (by rfl) ?_ ?_; rotate_left 1; (· (intro j w' hS; go_simp; (try (simp only [↓IntWalk.iteOmega]; go_simp)); (try simp (disch := omega) only [IntWalk.i64_in]); try with_reducible rfl)); simp only [Act.put, List.setIfInBounds_toArray, List.set_cons_zero, List.set_cons_succ]) | (refine qs_mid (v := ?_) (by rfl) ?_ ?_; rotate_left 1; (· (intro j w' hj1 hj2 hS; go_simp; (try (simp only [↓IntWalk.iteOmega]; go_simp)); (try simp (disch := omega) only [IntWalk.i64_in]); try with_reducible rfl)); simp only [Act.put, List.setIfInBounds_toArray, List.set_cons_zero, List.set_cons_succ]) | (refine qs_skip (by rfl) ?_; simp only [Act.put, List.setIfInBounds_toArray, List.set_cons_zero, List.set_cons_succ])))
    refine qs_act ?_
    go_wp2_with ((with_reducible show wpList _ _ _ (_ :: _) _ _); refine wpl_mdel rfl 101 (.tmp 17) (.tmp 18) rfl keyed_key Tryz.underlying101 H4.out.drew.map rfl K rfl (klK_inj' K) (keyOf_key K) ?_; intro w7 hm hg; have M7 := Lib.hid hm; have G7 := Lib.hid hg; clear hm hg)
    refine ⟨fun h => absurd h (by omega), ?_⟩
    refine qs_nil ?_
    go_wp2_with fail
    go_ret
    unfold WantPost wantX
    rw [← HG.out]
    have G7' : w4.grownBy w7 (some bx) := ⟨G7.out.os, G7.out.tape, G7.out.output, G7.out.size, G7.out.block⟩
    exact ⟨rfl, H4.out.put M7.out G7', HAp.out.2 _ (tch_own G7')⟩
end Go.Proofs.YtgjjdfhoakailaaGreat
