/-
  what this claim needs of: PnZ1 (written by cut.py).
-/
import Derived.Test.YtpadifphnbdbpaaGreatPPnS4
namespace Go.Proofs.YtpadifphnbdbpaaGreat
open Go.RowKit Go.Maps Go.Sort Go.Shelf
set_option linter.unusedVariables false
set_option linter.unusedSimpArgs false
theorem built_sm : Tryz.prog.built 23 [(0, .int .i64 64), (1, .int .i64 4), (2, .int .i64 32), (3, .int .i64 1), (4, .int .i64 8)] = some (geC smHd.geo).toArray := by kernel_rfl
theorem lz_small (w : World) : Calls Tryz.prog 13 #[] w fun e w' => e = .returned (.agg (geC smHd.geo).toArray) ∧ Below w.heap.size w w' := by
  go_enter Tryz.func13, Tryz.ntmps13
  go_wp2_with (first
    | (refine wpl_alloc rfl 23 (by rfl) Tryz.zeroValue23 5 (by rfl) ?_; intro w1 cs1 hk hc hg hz; have K1 := Lib.hid hk; have C1 := Lib.hid hc; have L1 := Lib.hid (bl_n (Below.refl _ w) hg); clear hk hc hg hz; simp only [Act.put, List.setIfInBounds_toArray, List.set_cons_zero, List.set_cons_succ])
    | (refine wpl_mk rfl 23 #[(0, .const (.int .i64 64)), (1, .const (.int .i64 4)), (2, .const (.int .i64 32)), (3, .const (.int .i64 1)), (4, .const (.int .i64 8))] rfl [(0, .int .i64 64), (1, .int .i64 4), (2, .int .i64 32), (3, .int .i64 1), (4, .int .i64 8)] rfl _ built_sm ?_)
    | (refine wpl_over rfl 23 (.tmp 0) (.tmp 1) (by rfl) w.heap.size (geC smHd.geo) (by rfl) (by rfl) _ cs1 K1.out (geC_info _) (by rw [C1.out]; rfl) (by simp [geC, Value.oneCell']) ?_; intro w2 hb hg hz; have K2 := Lib.hid hb; have L2 := Lib.hid (bl_g L1.out hg (Nat.le_refl _)); clear hb hg hz; simp only [Act.put, List.setIfInBounds_toArray, List.set_cons_zero, List.set_cons_succ]))
  (try simp only [Exit.inBlock, Exit.then])
  refine bodyPost_ret (results_blk rfl _ w.heap.size rfl _ _ K2.out _ Tryz.underlying23 rfl 5 (geC_info smHd.geo) rfl) rfl ?_
  exact ⟨rfl, L2.out⟩
set_option maxRecDepth 100000 in
theorem lz_pick (x : Int) (hx : -9223372036854775808 ≤ x ∧ x ≤ 9223372036854775807) (w : World) : Calls Tryz.prog 6 #[.int .i64 x, .int .i64 3] w fun e w' => (∃ p : Nat, p < 3 ∧ e = .returned (.int .i64 (p : Int))) ∧ w = w' := by
  go_enter Tryz.func6, Tryz.ntmps6
  have h1 := Int.lt_tmod_of_pos x (show (0 : Int) < 3 by omega)
  have h2 := Int.tmod_lt_of_pos x (show (0 : Int) < 3 by omega)
  have HH := Lib.hid (And.intro h1 h2)
  clear h1 h2
  go_wp2_with fail
  · have h := HH.out
    have e : wrap64 (x.tmod 3 + 3) = x.tmod 3 + 3 := IntWalk.wrap64_in _ (by omega)
    rw [e]
    go_ret
    exact ⟨⟨(x.tmod 3 + 3).toNat, by omega, by show Ending.returned (Value.int .i64 (x.tmod 3 + 3)) = _; rw [Int.toNat_of_nonneg (by omega)]⟩, rfl⟩
  · have h := HH.out
    go_ret
    exact ⟨⟨(x.tmod 3).toNat, by omega, by show Ending.returned (Value.int .i64 (x.tmod 3)) = _; rw [Int.toNat_of_nonneg (by omega)]⟩, rfl⟩
theorem ci_renew {w : World} {c kb d sb ob n N : Nat} {L : Int → Sec} (h : CcI w c kb d sb ob n L N) : Calls Tryz.prog 7 #[.pointer (some ⟨d, 0, none⟩), .int .i64 8] w fun e w' => ∃ c2 kb2, e = .returned (.pointer (some ⟨c2, 0, none⟩)) ∧ CcI w' c2 kb2 d sb ob n L N ∧ Below w.heap.size w w' ∧ w.heap.size ≤ c2 ∧ w.heap.size ≤ kb2 := by
  obtain ⟨K, S, O, h1, h2, h3, h4⟩ := h
  refine (cc_new h1.dk).mono ?_
  rintro e w' ⟨c2, kb2, he, hC, hb, hg⟩
  exact ⟨c2, kb2, he, ⟨[], S, O, hC, h2, by simp, h4⟩, hb, hg⟩
theorem ci_first {w : World} {d sb ob n : Nat} (h : DkIs w d sb ob n [] []) : Calls Tryz.prog 7 #[.pointer (some ⟨d, 0, none⟩), .int .i64 8] w fun e w' => ∃ c kb, e = .returned (.pointer (some ⟨c, 0, none⟩)) ∧ CcI w' c kb d sb ob n (fun _ => zSec) 0 ∧ Below w.heap.size w w' ∧ w.heap.size ≤ c ∧ w.heap.size ≤ kb := by
  refine (cc_new h).mono ?_
  rintro e w' ⟨c2, kb2, he, hC, hb, hg⟩
  exact ⟨c2, kb2, he, ⟨[], [], [], hC, fun i => rfl, by simp, by simp⟩, hb, hg⟩
def awL : Int → Sec := svLs (fun _ => zSec) 126 10 8 1 smHd 5
theorem awL_0 : NoFr (awL 0).1 := noFr_zero
theorem awL_1 : (awL 1).1 = hdRow smHd := rfl
theorem awL_pg : secsL (secsAt awL 126 2) = bV ndRow := by
  rw [← pgS_row]
  rfl
theorem built_aw : Tryz.prog.built 25 [(0, .agg (geC smHd.geo).toArray), (1, .int .i64 1), (4, .int .i64 5)] = some (hdC ⟨smHd.geo, 1, 0, 0, 5⟩).toArray := by kernel_rfl
theorem ge_eql (w : World) : (binOp BinOp.eql 23 (.agg (geC smHd.geo).toArray) (.agg (geC smHd.geo).toArray)).run Tryz.prog w = .ok (.bool true) w := by kernel_rfl
theorem load_ge {x : Operand} {o : Oper} {a : Act} {w : World} (b off : Nat) (g : Geo) (hc : w.rangeAt b off (geC g)) (ho : o.op = .load 23 x) (hx : a.eval x = .pointer (some ⟨b, off, none⟩)) : (execOp a.eval o).run Tryz.prog w = .ok (.value (.agg (geC g).toArray)) w :=
  load_runO 23 ho b off hx (geC g) _ hc Tryz.underlying23 rfl (geC_info g)
theorem secsG_sm : secsG smHd.geo = 362 := by unfold secsG; rw [if_pos smHd_ok.1]; rfl
set_option maxRecDepth 100000 in
set_option maxHeartbeats 1000000 in
theorem lz_awake (w : World) : Calls Tryz.prog 4 #[] w fun e w' => e = .returned (.bool true) ∧ Below w.heap.size w w' := by
  go_enter Tryz.func4, Tryz.ntmps4
  go_upto_region 5 with (first
    | (go_at_call 13; refine (lz_small _).mono ?_; rintro e w1 ⟨rfl, hl⟩; have L1 := Lib.hid hl; clear hl)
    | (refine wpl_over rfl 23 (.tmp 1) (.tmp 11) (by rfl) w1.heap.size (geC smHd.geo) (by rfl) (by rfl) _ cs2 B2.out (geC_info _) (by rw [Z2.out]; rfl) (by simp [geC, Value.oneCell']) ?_; intro w3 hb hg hz; have G3 := Lib.hid (show Blk w3 w1.heap.size 23 (geC smHd.geo).toArray from hb); have L3 := Lib.hid (bl_g L2.out hg L1.out.size); clear hb hg hz; simp only [Act.put, List.setIfInBounds_toArray, List.set_cons_zero, List.set_cons_succ])
    | (refine wpl_load_blk rfl 23 (.tmp 1) (by rfl) w1.heap.size (by rfl) 23 _ G3.out _ Tryz.underlying23 rfl 5 (geC_info smHd.geo) rfl ?_; simp only [Act.put, List.setIfInBounds_toArray, List.set_cons_zero, List.set_cons_succ])
    | (go_at_call 14; refine (secs_any smHd_ok.1.geB).mono ?_; rewrite [secsG_sm]; rintro e w4 ⟨rfl, hl⟩; have L4 := Lib.hid (below_chain L3.out hl); have G4 := Lib.hid (G3.out.below hl G3.out.lt); clear hl)
    | (go_at_call 8; refine (dk_new 362 (by omega) _).mono ?_; rintro e w5 ⟨d, sb, ob, rfl, hD, hl, hd1, hd2, hd3⟩; have D5 := Lib.hid hD; have L5 := Lib.hid (below_chain L4.out hl); have G5 := Lib.hid (G4.out.below hl G4.out.lt); have GE := Lib.hid (And.intro hd1 (And.intro hd2 hd3)); clear hD hl hd1 hd2 hd3)
    | (go_at_call 7; refine (ci_first D5.out).mono ?_; rintro e w6 ⟨c, kb, rfl, hC, hl, hc1, hc2⟩; have C6 := Lib.hid hC; have GC := Lib.hid (And.intro hc1 hc2); clear hc1 hc2; have L6 := Lib.hid (below_chain L5.out hl); have G6 := Lib.hid (G5.out.below hl G5.out.lt); clear hC hl)
    | (go_at_call 10; refine (pt_load_none C6.out (by omega) (by omega) noFr_zero noFr_zero).mono ?_; rintro e w7 ⟨rfl, hC, hT⟩; have C7 := Lib.hid hC; have T7 := Lib.hid hT; have G7 := Lib.hid (G6.out.cc C6.out hT (by decide)); clear hC hT)
    | (refine wpl_alloc rfl 25 (by rfl) Tryz.zeroValue25 9 (by rfl) ?_; intro w8 cs8 hk hc hg hz; have B8 := Lib.hid (show Blk w8 w7.heap.size 25 cs8 from hk); have Z8 := Lib.hid hc; have X8 := Lib.hid (bl_n (Below.refl _ w7) hg); clear hk hc hg hz; simp only [Act.put, List.setIfInBounds_toArray, List.set_cons_zero, List.set_cons_succ])
    | (refine wpl_over rfl 25 (.tmp 4) (.tmp 20) (by rfl) w7.heap.size (hdC zHd) (by rfl) (by rfl) _ cs8 B8.out (hdC_info zHd) (by rw [Z8.out]; rfl) (hdC_one zHd) ?_; intro w9 hb hg hz; have X9 := Lib.hid (bl_g X8.out hg (Nat.le_refl _)); clear hb hg hz; simp only [Act.put, List.setIfInBounds_toArray, List.set_cons_zero, List.set_cons_succ])
    | (refine wpl_alloc rfl 23 (by rfl) Tryz.zeroValue23 5 (by rfl) ?_; intro w2 cs2 hk hc hg hz; have B2 := Lib.hid (show Blk w2 w1.heap.size 23 cs2 from hk); have Z2 := Lib.hid hc; have L2 := Lib.hid (bl_n L1.out hg); clear hk hc hg hz; simp only [Act.put, List.setIfInBounds_toArray, List.set_cons_zero, List.set_cons_succ]))
  have GF := Lib.hid (show w.heap.size ≤ c ∧ w.heap.size ≤ kb ∧ w.heap.size ≤ sb ∧ w.heap.size ≤ ob from by
    have h1 := GC.out
    have h2 := GE.out
    have h3 := L5.out.size
    have h4 := L4.out.size
    omega)
  have C9 := Lib.hid (C7.out.below X9.out)
  have G9 := Lib.hid (G7.out.below X9.out G7.out.lt)
  have L7 := Lib.hid (show Below w.heap.size w w7 from ((Tch.below (T := []) L6.out).fresh T7.out (fun i hi => by have h := GF.out; simp at hi; right; rcases hi with rfl | rfl | rfl | rfl <;> omega)).nil)
  have L9 := Lib.hid (below_chain L7.out X9.out)
  clear L1 B2 Z2 L2 G3 L3 L4 G4 D5 L5 G5 GE C6 L6 G6 GC C7 T7 G7 B8 Z8 X8 X9 L7
  generalize w1.heap.size = gb at *
  refine wp_region_qs (fun _ w' => w'.rangeAt gb 0 (geC smHd.geo)) [(0, some 1), (1, some 2), (2, some 1), (3, none), (4, none), (5, some 2)] (by kernel_rfl) (by kernel_rfl) (by kernel_rfl) (by kernel_rfl) (by kernel_rfl) (fun _ _ _ _ _ h => h) (by have := G9.out.range; rwa [List.toList_toArray] at this) ?_
  simp only [List.map_cons, List.map_nil, List.getD_cons_succ, List.getD_cons_zero]
  (repeat (first | ((first | (refine qs_row (by rfl) 23 (.tmp 1) (by with_reducible rfl) (gb) 0 (by rfl) (geC smHd.geo) _ (fun j w h1 h2 hS => hS) Tryz.underlying23 rfl (geC_info _) ?_) | (refine qs_mk (by rfl) 25 _ (by rfl) [(0, .agg (geC smHd.geo).toArray), (1, .int .i64 1), (4, .int .i64 5)] (by rfl) (hdC ⟨smHd.geo, 1, 0, 0, 5⟩).toArray built_aw ?_)); simp only [Act.put, List.setIfInBounds_toArray, List.set_cons_zero, List.set_cons_succ]) | (refine qs_now (v := ?_) (by rfl) ?_ ?_; rotate_left 1; (· (intro w' hS; go_simp; (try (simp only [↓IntWalk.iteOmega]; go_simp)); (try simp (disch := omega) only [IntWalk.i64_in]); try with_reducible rfl)); simp only [Act.put, List.setIfInBounds_toArray, List.set_cons_zero, List.set_cons_succ]) | (refine qs_run (v := ?_) (by rfl) ?_ ?_; rotate_left 1; (· (intro j w' hS; go_simp; (try (simp only [↓IntWalk.iteOmega]; go_simp)); (try simp (disch := omega) only [IntWalk.i64_in]); try with_reducible rfl)); simp only [Act.put, List.setIfInBounds_toArray, List.set_cons_zero, List.set_cons_succ]) | (refine qs_mid (v := ?_) (by rfl) ?_ ?_; rotate_left 1; (· (intro j w' hj1 hj2 hS; go_simp; (try (simp only [↓IntWalk.iteOmega]; go_simp)); (try simp (disch := omega) only [IntWalk.i64_in]); try with_reducible rfl)); simp only [Act.put, List.setIfInBounds_toArray, List.set_cons_zero, List.set_cons_succ]) | (refine qs_skip (by rfl) ?_; simp only [Act.put, List.setIfInBounds_toArray, List.set_cons_zero, List.set_cons_succ])))
  refine qs_act ?_
  go_wp2_with (go_at_call 9; refine (st_new 8 (by omega) _).mono ?_; rintro e w10 ⟨si, xi, bx, mi, bs, rfl, hs, hl, _⟩; have S10 := Lib.hid hs; have X10 := Lib.hid (show Below w9.heap.size w9 w10 from below_chain (Below.refl w9.heap.size w9).drew hl); clear hs hl)
  have C10 := Lib.hid (C9.out.below X10.out)
  have G10 := Lib.hid (G9.out.below X10.out G9.out.lt)
  have L10 := Lib.hid (below_chain L9.out X10.out)
  refine ⟨by have := G10.out.range; rwa [List.toList_toArray] at this, ?_⟩
  (repeat (first | ((first | (refine qs_row (by rfl) 23 (.tmp 1) (by with_reducible rfl) (gb) 0 (by rfl) (geC smHd.geo) _ (fun j w h1 h2 hS => hS) Tryz.underlying23 rfl (geC_info _) ?_) | (refine qs_mk (by rfl) 25 _ (by rfl) [(0, .agg (geC smHd.geo).toArray), (1, .int .i64 1), (4, .int .i64 5)] (by rfl) (hdC ⟨smHd.geo, 1, 0, 0, 5⟩).toArray built_aw ?_)); simp only [Act.put, List.setIfInBounds_toArray, List.set_cons_zero, List.set_cons_succ]) | (refine qs_now (v := ?_) (by rfl) ?_ ?_; rotate_left 1; (· (intro w' hS; go_simp; (try (simp only [↓IntWalk.iteOmega]; go_simp)); (try simp (disch := omega) only [IntWalk.i64_in]); try with_reducible rfl)); simp only [Act.put, List.setIfInBounds_toArray, List.set_cons_zero, List.set_cons_succ]) | (refine qs_run (v := ?_) (by rfl) ?_ ?_; rotate_left 1; (· (intro j w' hS; go_simp; (try (simp only [↓IntWalk.iteOmega]; go_simp)); (try simp (disch := omega) only [IntWalk.i64_in]); try with_reducible rfl)); simp only [Act.put, List.setIfInBounds_toArray, List.set_cons_zero, List.set_cons_succ]) | (refine qs_mid (v := ?_) (by rfl) ?_ ?_; rotate_left 1; (· (intro j w' hj1 hj2 hS; go_simp; (try (simp only [↓IntWalk.iteOmega]; go_simp)); (try simp (disch := omega) only [IntWalk.i64_in]); try with_reducible rfl)); simp only [Act.put, List.setIfInBounds_toArray, List.set_cons_zero, List.set_cons_succ]) | (refine qs_skip (by rfl) ?_; simp only [Act.put, List.setIfInBounds_toArray, List.set_cons_zero, List.set_cons_succ])))
  have SV := Lib.hid (pt_save_ok C10.out S10.out smHd.geo 1 0 0 5 ⟨smHd_ok.1.geB, by unfold rI; decide, by unfold rI; decide⟩ ⟨smHd_ok.1, by decide, by decide, by decide⟩ (by omega) 126 10 8 rfl rfl rfl)
  refine qs_act ?_
  go_wp2_with (go_at_call 11; refine SV.out.mono ?_; rintro e w11 ⟨rfl, hC, hT⟩; have C11 := Lib.hid (show CcI w11 c kb d sb ob 362 awL 15 from hC); have T11 := Lib.hid hT; have G11 := Lib.hid (G10.out.cc C10.out hT (by decide)); clear hC hT)
  refine ⟨by have := G11.out.range; rwa [List.toList_toArray] at this, ?_⟩
  (repeat (first | ((first | (refine qs_row (by rfl) 23 (.tmp 1) (by with_reducible rfl) (gb) 0 (by rfl) (geC smHd.geo) _ (fun j w h1 h2 hS => hS) Tryz.underlying23 rfl (geC_info _) ?_) | (refine qs_mk (by rfl) 25 _ (by rfl) [(0, .agg (geC smHd.geo).toArray), (1, .int .i64 1), (4, .int .i64 5)] (by rfl) (hdC ⟨smHd.geo, 1, 0, 0, 5⟩).toArray built_aw ?_)); simp only [Act.put, List.setIfInBounds_toArray, List.set_cons_zero, List.set_cons_succ]) | (refine qs_now (v := ?_) (by rfl) ?_ ?_; rotate_left 1; (· (intro w' hS; go_simp; (try (simp only [↓IntWalk.iteOmega]; go_simp)); (try simp (disch := omega) only [IntWalk.i64_in]); try with_reducible rfl)); simp only [Act.put, List.setIfInBounds_toArray, List.set_cons_zero, List.set_cons_succ]) | (refine qs_run (v := ?_) (by rfl) ?_ ?_; rotate_left 1; (· (intro j w' hS; go_simp; (try (simp only [↓IntWalk.iteOmega]; go_simp)); (try simp (disch := omega) only [IntWalk.i64_in]); try with_reducible rfl)); simp only [Act.put, List.setIfInBounds_toArray, List.set_cons_zero, List.set_cons_succ]) | (refine qs_mid (v := ?_) (by rfl) ?_ ?_; rotate_left 1; (· (intro j w' hj1 hj2 hS; go_simp; (try (simp only [↓IntWalk.iteOmega]; go_simp)); (try simp (disch := omega) only [IntWalk.i64_in]); try with_reducible rfl)); simp only [Act.put, List.setIfInBounds_toArray, List.set_cons_zero, List.set_cons_succ]) | (refine qs_skip (by rfl) ?_; simp only [Act.put, List.setIfInBounds_toArray, List.set_cons_zero, List.set_cons_succ])))
  refine qs_nil ?_
  have L11 := Lib.hid (show Below w.heap.size w w11 from ((Tch.below (T := []) L10.out).fresh T11.out (fun i hi => by have h := GF.out; simp at hi; right; rcases hi with rfl | rfl | rfl | rfl <;> omega)).nil)
  clear C9 G9 L9 S10 X10 C10 G10 L10 SV T11
  go_upto_region 7 with (first
    | (go_at_call 7; refine (ci_renew C11.out).mono ?_; rintro e w12 ⟨c2, kb2, rfl, hC, hl, hc1, hc2⟩; have C12 := Lib.hid hC; have L12 := Lib.hid (below_chain L11.out hl); have G12 := Lib.hid (G11.out.below hl G11.out.lt); have GG := Lib.hid (And.intro hc1 hc2); clear hC hl hc1 hc2)
    | (go_at_call 10; refine (pt_load_two C12.out (by omega) (by omega) awL_0 awL_1 awL_pg).mono ?_; rintro e w13 ⟨si2, xi2, bx2, mi2, bs2, rfl, hs, hT⟩; have S13 := Lib.hid hs; have T13 := Lib.hid hT; have G13 := Lib.hid (G12.out.cc C12.out hT (by decide)); clear hs hT)
    | (refine wpl_alloc rfl 25 (by rfl) Tryz.zeroValue25 9 (by rfl) ?_; intro w14 cs14 hk hc hg hz; have B14 := Lib.hid (show Blk w14 w13.heap.size 25 cs14 from hk); have Z14 := Lib.hid hc; have X14 := Lib.hid (bl_n (Below.refl _ w13) hg); clear hk hc hg hz; simp only [Act.put, List.setIfInBounds_toArray, List.set_cons_zero, List.set_cons_succ])
    | (refine wpl_over rfl 25 (.tmp 8) (.tmp 32) (by rfl) w13.heap.size (hdC smHd) (by rfl) (by rfl) _ cs14 B14.out (hdC_info smHd) (by rw [Z14.out]; rfl) (hdC_one smHd) ?_; intro w15 hb hg hz; have B15 := Lib.hid (show Blk w15 w13.heap.size 25 (hdC smHd).toArray from hb); have X15 := Lib.hid (bl_g X14.out hg (Nat.le_refl _)); clear hb hg hz; simp only [Act.put, List.setIfInBounds_toArray, List.set_cons_zero, List.set_cons_succ]))
  have S15 := Lib.hid (S13.out.below X15.out)
  have G15 := Lib.hid (show w15.rangeAt gb 0 (geC smHd.geo) from by have := (G13.out.below X15.out G13.out.lt).range; rwa [List.toList_toArray] at this)
  have N15 := Lib.hid (show w15.rangeAt w13.heap.size 0 (geC smHd.geo) from B15.out.part 0 (geC smHd.geo) rfl)
  have L13 := Lib.hid (show Below w.heap.size w w13 from ((Tch.below (T := []) L12.out).fresh T13.out (fun i hi => by have h := GF.out; have h2 := GG.out; have h3 := L11.out.size; simp at hi; right; rcases hi with rfl | rfl | rfl | rfl <;> omega)).nil)
  have L15 := Lib.hid (below_chain L13.out X15.out)
  have q1 : w15.cell? ⟨w13.heap.size, 5, none⟩ = some (.int .i64 1) := B15.out.cell rfl
  have q2 : w15.cell? ⟨w13.heap.size, 8, none⟩ = some (.int .i64 5) := B15.out.cell rfl
  have q3 : w15.cell? ⟨w13.heap.size, 6, none⟩ = some (.int .i64 1) := B15.out.cell rfl
  have q4 : w15.cell? ⟨w13.heap.size, 7, none⟩ = some (.int .i64 0) := B15.out.cell rfl
  clear C11 G11 L11 C12 L12 G12 GG S13 T13 G13 B14 Z14 X14 X15 GF
  generalize w13.heap.size = h8 at *
  go_wp2_with (first
    | (with_reducible refine wpl_valP (v := .agg (geC smHd.geo).toArray) (by kernel_rfl) (load_ge (x := .tmp 46) h8 0 smHd.geo N15.out (by with_reducible rfl) (by kernel_rfl)) ?_; simp only [Act.put, List.setIfInBounds_toArray, List.set_cons_zero, List.set_cons_succ])
    | (with_reducible refine wpl_valP (v := .agg (geC smHd.geo).toArray) (by kernel_rfl) (load_ge (x := .tmp 1) gb 0 smHd.geo G15.out (by with_reducible rfl) (by kernel_rfl)) ?_; simp only [Act.put, List.setIfInBounds_toArray, List.set_cons_zero, List.set_cons_succ])
    | (with_reducible refine wpl_valP (v := .bool true) (by kernel_rfl) (cmp_run (u := .agg (geC smHd.geo).toArray) (v := .agg (geC smHd.geo).toArray) (b := .eql) (t := 23) (x := .tmp 47) (y := .tmp 48) (by with_reducible rfl) (by kernel_rfl) (by kernel_rfl) (by kernel_rfl) (ge_eql _)) ?_; simp only [Act.put, List.setIfInBounds_toArray, List.set_cons_zero, List.set_cons_succ])
    | (go_at_call 15; refine (st_items S15.out (by simp) ⟨by simp, by simp⟩).mono ?_; rintro e w16 ⟨v, rfl, ho, hb⟩; rw [stItems_nil] at ho; obtain ⟨A2, c2, rfl, -⟩ := Src.of_own ho; have L16 := Lib.hid (below_chain L15.out hb); clear ho hb))
  go_ret
  exact ⟨rfl, L16.out⟩
end Go.Proofs.YtpadifphnbdbpaaGreat
