/-
  what this claim needs of: QnS4 (written by cut.py).
-/
import Derived.Test.YtffalfacakdhkaaGreatDoorDQnT1
namespace Go.Proofs.YtffalfacakdhkaaGreatDoor
open Go.RowKit Go.Maps Go.Sort Go.Shelf
set_option linter.unusedVariables false
set_option linter.unusedSimpArgs false
theorem src_nodes {w : World} {A : Option Addr} {q : Nat} (h : Src w 4 (.slice A 1 q) 1 ndE.toList) : ∃ b o, A = some ⟨b, o, none⟩ ∧ w.rangeAt b o ndE.toList ∧ b < w.heap.size := by
 obtain ⟨A', p', e', hl, hc⟩ := h
 injection e' with e1
 subst e1
 obtain ⟨b, off, e2, hlt, hcell⟩ := hc (by omega)
 exact ⟨b, off, e2, fun j v hv => hcell j v hv, hlt⟩
theorem bsrc_blk {w : World} {r : Nat} {zs : List Int} (h : Blk w r 5 (bV zs).toArray) (hl : zs.length = 512) : BSrc w (some ⟨r, 0, none⟩) 512 (bV zs) :=
 ⟨r, 0, _, rfl, h, by rw [List.toList_toArray, List.drop_zero, List.take_of_length_le (by rw [bV_len, hl]; exact Nat.le_refl _)], by rw [bV_len, hl]⟩
theorem pages_ge {g : Geo} (h : RightP g) : 2 ≤ pagesI g := by
 have h1 := h.1.prod
 obtain ⟨⟨a1, a2⟩, _⟩ := h.1
 unfold pagesI
 omega
theorem sv_room {g : Geo} {n m ar J : Nat} (hr : RightP g) (hn : secsI g ≤ n) (har : (ar : Int) = 2 + 2 * g.jou + ((m % 2 : Nat) : Int) * (2 * pagesI g)) (hJ : (J : Int) = g.jou) : ar + 2 ≤ n ∧ secsI g ≤ n ∧ 2 ≤ n ∧ J ≤ 1024 := by
 have h1 := pages_ge hr
 have h2 := hr.1.prod
 have h3 : 1 ≤ g.jou ∧ g.jou ≤ 1024 := by obtain ⟨_, _, _, _, _, h⟩ := hr.1; omega
 have hs : secsI g = 2 + 2 * g.jou + 4 * pagesI g + g.segs * g.seg := rfl
 rcases Nat.mod_two_eq_zero_or_one m with e | e
 ·rw [e] at har
  simp only [Int.natCast_zero, Int.zero_mul, Int.add_zero] at har
  omega
 ·rw [e] at har
  simp only [Int.natCast_one, Int.one_mul] at har
  omega
theorem idx_run {o : Oper} {a : Act} {w : World} {x y : Operand} {arr : Array Value} {i : Int} {v : Value} (ho : o.op = .index 406 x y) (hx : a.eval x = .agg arr) (hy : a.eval y = .int .i64 i) (h : (Instr.index 406 (.agg arr) (.int .i64 i)).run Tryz.prog w = .ok v w) : (execOp a.eval o).run Tryz.prog w = .ok (.value v) w := by
 unfold execOp
 simp only [ho, hx, hy, Sem.run_bind, h, Sem.run_pure, Result.andThen_ok]
theorem hd_sets (g : Geo) (m pg rt sn : Int) : ((hdC ⟨g, m, pg, rt, sn⟩).toArray.setIfInBounds 6 (.int .i64 1)).setIfInBounds 7 (.int .i64 0) = (hdC ⟨g, m, 1, 0, sn⟩).toArray := rfl
theorem pagesG_right {g : Geo} (h : RightP g) : pagesG g = pagesI g := by unfold pagesG; rw [if_pos h]
theorem info_n1 : (Tryz.prog.info? 217).map (·.size) = some 1 := by kernel_rfl
def svLs (L : Int → Sec) (ar hf J m : Nat) (Y : Hd) : Nat → Int → Sec
 | 0 => L
 | 1 => putL L ar pgS
 | 2 => putL (putL L ar pgS) hf (List.replicate J zSec)
 | 3 => putL (putL L ar pgS) hf (List.replicate J zSec)
 | _ => putL (putL (putL L ar pgS) hf (List.replicate J zSec)) (m % 2) [hdS Y]
def svNs (N J : Nat) : Nat → Nat
 | 0 => N
 | 1 => N + 2
 | 2 => N + 2 + J
 | 3 => N + 2 + J + 1
 | 4 => N + 2 + J + 1 + 1
 | _ => N + 2 + J + 1 + 1 + 1
structure SvI [gm : Inhabited GMk] (w : World) (c kb d sb ob n : Nat) (L : Int → Sec) (N ar hf J m : Nat) (Y : Hd) (Ab Hb Lb Bb : Nat) (A : Option Addr) (p nb no q i : Nat) (W : World) : Prop where
 bx : SvB c Y Ab Hb Bb A p W
 cc : CcI W c kb d sb ob n (svLs L ar hf J m Y i) (svNs N J i)
 low : Tch [c, kb, sb, ob] w W
 lv : i = 0 → Blk W Lb 217 #[.slice (some ⟨nb, no, none⟩) 1 q] ∧ W.rangeAt nb no ndE.toList ∧ nb < W.heap.size
theorem SvI.next [gm : Inhabited GMk] {w W W' : World} {c kb d sb ob n N ar hf J m Ab Hb Lb Bb p nb no q i : Nat} {L : Int → Sec} {Y : Hd} {A : Option Addr} (I : SvI w c kb d sb ob n L N ar hf J m Y Ab Hb Lb Bb A p nb no q i W) (hC : CcI W' c kb d sb ob n (svLs L ar hf J m Y (i + 1)) (svNs N J (i + 1))) (hT : Tch [c, kb, sb, ob] W W') : SvI w c kb d sb ob n L N ar hf J m Y Ab Hb Lb Bb A p nb no q (i + 1) W' :=
 ⟨I.bx.cc I.cc hT, hC, I.low.trans hT, fun h => absurd h (by omega)⟩
def SvL [gm : Inhabited GMk] (w : World) (c kb d sb ob n : Nat) (L : Int → Sec) (N ar hf J m : Nat) (Y : Hd) (Ab Hb Lb Bb : Nat) (A : Option Addr) (p nb no q : Nat) (k : Nat) (iv : Value) (wk : World) : Prop := ∃ i, iv = .int .i64 ((i : Nat) : Int) ∧ i + k = 5 ∧ SvI w c kb d sb ob n L N ar hf J m Y Ab Hb Lb Bb A p nb no q i wk
set_option maxRecDepth 100000 in
set_option maxHeartbeats 2000000 in
theorem pt_save_ok [gm : Inhabited GMk] {w : World} {c kb d sb ob n N si xi bx mi bs u : Nat} {L : Int → Sec} (h : CcI w c kb d sb ob n L N) (hs : StIs w si xi bx mi bs u [] zF []) (g : Geo) (m : Nat) (pg rt sn : Int) (hY : HdI ⟨g, (m : Int), pg, rt, sn⟩) (hk : SvOk n ⟨g, (m : Int), pg, rt, sn⟩) (hN : N ≤ 700000)
  (ar hf J : Nat) (har : (ar : Int) = 2 + 2 * g.jou + ((m % 2 : Nat) : Int) * (2 * pagesI g)) (hhf : (hf : Int) = 2 + ((m % 2 : Nat) : Int) * g.jou) (hJ : (J : Int) = g.jou) :
  Calls Tryz.prog 208 #[.pointer (some ⟨c, 0, none⟩), .agg (hdC ⟨g, (m : Int), pg, rt, sn⟩).toArray, .pointer (some ⟨si, 0, none⟩)] w fun e w' => e = .returned (.int .i64 0) ∧ CcI w' c kb d sb ob n (svLs L ar hf J m ⟨g, (m : Int), 1, 0, sn⟩ 5) (svNs N J 5) ∧ Tch [c, kb, sb, ob] w w' := by
 have H := yH h
 have HS := yH hs
 have hn0 : ¬ (n : Int) = 0 := by have := h.rng; omega
 obtain ⟨Y, hYe⟩ : ∃ Y : Hd, Y = ⟨g, (m : Int), pg, rt, sn⟩ := ⟨_, rfl⟩
 have eg : Y.geo = g := by rw [hYe]
 have en : Y.num = (m : Int) := by rw [hYe]
 have es : Y.snap = sn := by rw [hYe]
 rw [← hYe] at hY hk
 rw [← hYe]
 obtain ⟨k1, k2, k3, k4⟩ := hk
 have HY := yH hY
 have HR := yH k1
 have E2 := yH (show decide (Y.num < 0) = false from decide_eq_false (by omega))
 have E3 := yH (show decide (Y.num > 1099511627776) = false from decide_eq_false (by omega))
 have E4 := yH (show decide (Y.snap < 1) = false from decide_eq_false (by omega))
 have E5 := yH (show decide (Y.snap > 1073741824) = false from decide_eq_false (by omega))
 obtain ⟨S, hS⟩ : ∃ S, secsI Y.geo = S := ⟨_, rfl⟩
 have HSS := yH hS
 have E1 := yH (show decide ((n : Int) < S) = false from decide_eq_false (by omega))
 have HK := yH (And.intro k2 (And.intro k3 k4))
 have HE := yH (And.intro hYe (And.intro eg (And.intro en es)))
 have HP := yH (And.intro hN (And.intro har (And.intro hhf hJ)))
 clear h hs hY k1 k2 k3 k4 hS hYe eg en es hN har hhf hJ
 go_enter Tryz.func208, Tryz.ntmps208
 go_upto_region 3 with (first
  | (refine wpl_boxS rfl 117 (.tmp 0) rfl (.pointer (some ⟨c, 0, none⟩)) (by rfl) (by rfl) ?_; intro w1 hk hg hz; have A1 := yH (show Blk w1 w.heap.size 117 #[.pointer (some ⟨c, 0, none⟩)] from hk); have L1 := yH (bl_n (Below.refl _ w) hg); have a1 : w1.cell? ⟨w.heap.size, 0, none⟩ = some (.pointer (some ⟨c, 0, none⟩)) := A1.out.cell rfl; clear hk hg hz; simp only [Act.put, yA, yB, yC])
  | (refine wpl_box rfl 123 (.tmp 1) rfl _ rfl ?_; intro w2 hk hg hz; have B2 := yH (show Blk w2 w1.heap.size 123 (hdC Y).toArray from hk); have L2 := yH (bl_n L1.out hg); have A2 := yH (A1.out.grown hg (by simp)); have C2 := yH (H.out.below L2.out); have S2 := yH (HS.out.below L2.out); have a2 : w2.cell? ⟨w.heap.size, 0, none⟩ = some (.pointer (some ⟨c, 0, none⟩)) := A2.out.cell rfl; clear a1 hk hg hz)
  | (go_at_call 137; refine (ci_sectors C2.out).mono ?_; rintro e w2' ⟨rfl, rfl⟩)
  | (go_at_call 152; refine (pst_check S2.out (by simp) ⟨by simp, by simp⟩ (stItems_nil u)).mono ?_; rintro e w3 ⟨rfl, hl⟩; have L3 := yH (below_chain L2.out hl); have B3 := yH (B2.out.below hl B2.out.lt); have A3 := yH (A2.out.below hl A2.out.lt); have C3 := yH (C2.out.below hl); have S3 := yH (S2.out.below hl); clear hl a2))
 have WB := yH (show w.heap.size < w1.heap.size from A1.out.lt)
 clear A1 A2 B2 C2 S2 HS L1 L2
 generalize w1.heap.size = hb at *
 obtain ⟨wb, hwb⟩ : ∃ wb, wb = w.heap.size := ⟨_, rfl⟩
 have HWB := yH hwb
 rw [← hwb] at A3
 rw [← hwb]
 clear hwb
 refine wp_region_qs (fun _ w' => w'.rangeAt hb 0 (geC Y.geo) ∧ w'.cell? ⟨hb, 5, none⟩ = some (.int .i64 Y.num) ∧ w'.cell? ⟨hb, 8, none⟩ = some (.int .i64 Y.snap) ∧ w'.cell? ⟨wb, 0, none⟩ = some (.pointer (some ⟨c, 0, none⟩))) [(0, some 3), (1, some 2), (2, none), (3, some 3), (4, some 1), (5, some 2), (7, some 3), (8, some 2), (6, none), (9, none), (10, some 3), (11, some 3), (12, some 3), (13, some 3), (14, some 3), (15, some 3), (16, some 3), (17, some 3), (18, some 3), (19, some 3), (20, some 3), (21, some 3), (22, some 3), (23, some 3), (24, some 3), (25, some 3), (26, some 3), (27, some 3), (28, some 3), (29, some 3), (30, some 3), (31, some 3), (32, some 3)] (by kernel_rfl) (by kernel_rfl) (by kernel_rfl) (by kernel_rfl) (by kernel_rfl) (fun _ _ _ _ _ h => h) ⟨B3.out.part 0 (geC Y.geo) rfl, B3.out.cell rfl, B3.out.cell rfl, A3.out.cell rfl⟩ ?_
 simp only [yD, yE, yF, yG]
 (repeat (first | ((first | (refine qs_row (by rfl) 66 (.tmp 28) (by with_reducible rfl) (hb) 0 (by rfl) (geC Y.geo) _ (fun j w h1 h2 hS => hS.1) Tryz.underlying66 rfl (geC_info _) ?_) | (refine qs_row (by rfl) 66 (.tmp 35) (by with_reducible rfl) (hb) 0 (by rfl) (geC Y.geo) _ (fun j w h1 h2 hS => hS.1) Tryz.underlying66 rfl (geC_info _) ?_) | (refine qs_mid (v := ?_) (by rfl) ?_ ?_; rotate_left 1; (· (intro j w' hj1 hj2 hS; have hS1 := hS.2.1; have hS2 := hS.2.2.1; have hS3 := hS.2.2.2; have d1 := E1.out; have d2 := E2.out; have d3 := E3.out; have d4 := E4.out; have d5 := E5.out; clear hS; go_simp; (try (simp only [↓IntWalk.iteOmega]; go_simp)); (try simp (disch := omega) only [IntWalk.i64_in]); try with_reducible rfl)))); simp only [Act.put, yA, yB, yC]) | (refine qs_mid (v := ?_) (by rfl) ?_ ?_; rotate_left 1; (· (intro j w' hj1 hj2 hS; go_simp; (try (simp only [↓IntWalk.iteOmega]; go_simp)); (try simp (disch := omega) only [IntWalk.i64_in]); try with_reducible rfl)); simp only [Act.put, yA, yB, yC]) | (refine qs_skip (by rfl) ?_; simp only [Act.put, yA, yB, yC])))
 refine qs_act ?_
 go_wp2_with (go_at_call 74; refine (right_any HY.out.1).mono ?_; rewrite [decide_eq_true HR.out]; rintro e w4 ⟨rfl, hl⟩; have X4 := yH (show Below w3.heap.size w3 w4 from below_chain (Below.refl w3.heap.size w3).drew hl); clear hl)
 have B4 := yH (B3.out.below X4.out B3.out.lt)
 have A4 := yH (A3.out.below X4.out A3.out.lt)
 have C4 := yH (C3.out.below X4.out)
 refine ⟨⟨B4.out.part 0 (geC Y.geo) rfl, B4.out.cell rfl, B4.out.cell rfl, A4.out.cell rfl⟩, ?_⟩
 (repeat (first | ((first | (refine qs_row (by rfl) 66 (.tmp 28) (by with_reducible rfl) (hb) 0 (by rfl) (geC Y.geo) _ (fun j w h1 h2 hS => hS.1) Tryz.underlying66 rfl (geC_info _) ?_) | (refine qs_row (by rfl) 66 (.tmp 35) (by with_reducible rfl) (hb) 0 (by rfl) (geC Y.geo) _ (fun j w h1 h2 hS => hS.1) Tryz.underlying66 rfl (geC_info _) ?_) | (refine qs_mid (v := ?_) (by rfl) ?_ ?_; rotate_left 1; (· (intro j w' hj1 hj2 hS; have hS1 := hS.2.1; have hS2 := hS.2.2.1; have hS3 := hS.2.2.2; have d1 := E1.out; have d2 := E2.out; have d3 := E3.out; have d4 := E4.out; have d5 := E5.out; clear hS; go_simp; (try (simp only [↓IntWalk.iteOmega]; go_simp)); (try simp (disch := omega) only [IntWalk.i64_in]); try with_reducible rfl)))); simp only [Act.put, yA, yB, yC]) | (refine qs_mid (v := ?_) (by rfl) ?_ ?_; rotate_left 1; (· (intro j w' hj1 hj2 hS; go_simp; (try (simp only [↓IntWalk.iteOmega]; go_simp)); (try simp (disch := omega) only [IntWalk.i64_in]); try with_reducible rfl)); simp only [Act.put, yA, yB, yC]) | (refine qs_skip (by rfl) ?_; simp only [Act.put, yA, yB, yC])))
 refine qs_act ?_
 go_wp2_with (go_at_call 137; refine (ci_sectors C4.out).mono ?_; rintro e w4' ⟨rfl, rfl⟩)
 refine ⟨⟨B4.out.part 0 (geC Y.geo) rfl, B4.out.cell rfl, B4.out.cell rfl, A4.out.cell rfl⟩, ?_⟩
 (repeat (first | ((first | (refine qs_row (by rfl) 66 (.tmp 28) (by with_reducible rfl) (hb) 0 (by rfl) (geC Y.geo) _ (fun j w h1 h2 hS => hS.1) Tryz.underlying66 rfl (geC_info _) ?_) | (refine qs_row (by rfl) 66 (.tmp 35) (by with_reducible rfl) (hb) 0 (by rfl) (geC Y.geo) _ (fun j w h1 h2 hS => hS.1) Tryz.underlying66 rfl (geC_info _) ?_) | (refine qs_mid (v := ?_) (by rfl) ?_ ?_; rotate_left 1; (· (intro j w' hj1 hj2 hS; have hS1 := hS.2.1; have hS2 := hS.2.2.1; have hS3 := hS.2.2.2; have d1 := E1.out; have d2 := E2.out; have d3 := E3.out; have d4 := E4.out; have d5 := E5.out; clear hS; go_simp; (try (simp only [↓IntWalk.iteOmega]; go_simp)); (try simp (disch := omega) only [IntWalk.i64_in]); try with_reducible rfl)))); simp only [Act.put, yA, yB, yC]) | (refine qs_mid (v := ?_) (by rfl) ?_ ?_; rotate_left 1; (· (intro j w' hj1 hj2 hS; go_simp; (try (simp only [↓IntWalk.iteOmega]; go_simp)); (try simp (disch := omega) only [IntWalk.i64_in]); try with_reducible rfl)); simp only [Act.put, yA, yB, yC]) | (refine qs_skip (by rfl) ?_; simp only [Act.put, yA, yB, yC])))
 refine qs_act ?_
 go_wp2_with (go_at_call 75; refine (secs_any HY.out.1).mono ?_; rewrite [secsG_right HR.out, HSS.out]; rintro e w5 ⟨rfl, hl⟩; have X5 := yH (show Below w4.heap.size w4 w5 from hl); clear hl)
 have B5 := yH (B4.out.below X5.out B4.out.lt)
 have A5 := yH (A4.out.below X5.out A4.out.lt)
 have C5 := yH (C4.out.below X5.out)
 refine ⟨⟨B5.out.part 0 (geC Y.geo) rfl, B5.out.cell rfl, B5.out.cell rfl, A5.out.cell rfl⟩, ?_⟩
 (repeat (first | ((first | (refine qs_row (by rfl) 66 (.tmp 28) (by with_reducible rfl) (hb) 0 (by rfl) (geC Y.geo) _ (fun j w h1 h2 hS => hS.1) Tryz.underlying66 rfl (geC_info _) ?_) | (refine qs_row (by rfl) 66 (.tmp 35) (by with_reducible rfl) (hb) 0 (by rfl) (geC Y.geo) _ (fun j w h1 h2 hS => hS.1) Tryz.underlying66 rfl (geC_info _) ?_) | (refine qs_mid (v := ?_) (by rfl) ?_ ?_; rotate_left 1; (· (intro j w' hj1 hj2 hS; have hS1 := hS.2.1; have hS2 := hS.2.2.1; have hS3 := hS.2.2.2; have d1 := E1.out; have d2 := E2.out; have d3 := E3.out; have d4 := E4.out; have d5 := E5.out; clear hS; go_simp; (try (simp only [↓IntWalk.iteOmega]; go_simp)); (try simp (disch := omega) only [IntWalk.i64_in]); try with_reducible rfl)))); simp only [Act.put, yA, yB, yC]) | (refine qs_mid (v := ?_) (by rfl) ?_ ?_; rotate_left 1; (· (intro j w' hj1 hj2 hS; go_simp; (try (simp only [↓IntWalk.iteOmega]; go_simp)); (try simp (disch := omega) only [IntWalk.i64_in]); try with_reducible rfl)); simp only [Act.put, yA, yB, yC]) | (refine qs_skip (by rfl) ?_; simp only [Act.put, yA, yB, yC])))
 refine qs_nil ?_
 have S5 := yH (S3.out.below (below_chain X4.out X5.out))
 have L5 := yH (below_chain L3.out (below_chain X4.out X5.out))
 clear A3 A4 B3 B4 C3 C4 S3 L3 X4 X5 E1 E2 E3 E4 E5
 go_upto_region 6 with (first
  | (go_at_call 275; refine (pt_made S5.out).mono ?_; rintro e w6 ⟨tr, lf, rfl, ht, hl⟩; have T6 := yH ht; have X6 := yH hl; clear ht hl)
  | (go_at_call 276; refine (tr_nodesAll T6.out).mono ?_; rintro e w7 ⟨A7, q, rfl, hs7, hge7, hl⟩; obtain ⟨nb, no, rfl, hr7, hb7⟩ := src_nodes hs7; have R7 := yH (And.intro hr7 hb7); have NB := yH (show hb < nb from by have h1 := hge7 _ rfl; have h2 := B5.out.lt; have h3 := X6.out.size; simp only at h1; omega); have X7 := yH (below_chain X6.out hl); clear hs7 hge7 hl hr7 hb7)
  | (refine wpl_alloc_zero rfl 217 (by rfl) (z := .slice none 0 0) Tryz.zeroValue217 ?_; intro w8 hk hg hz; have G8 := yH (show Blk w8 w7.heap.size 217 #[.slice none 0 0] from hk); have X8 := yH (bl_n (Below.refl _ w7) hg); clear hk hg hz; simp only [Act.put, yA, yB, yC])
  | (refine wpl_set rfl 217 (.tmp 7) (.tmp 64) (by rfl) w7.heap.size 0 (.slice (some ⟨nb, no, none⟩) 1 q) (by rfl) (by rfl) _ _ G8.out info_n1 (show 0 < 1 by omega) (by rfl) (by rfl) ?_; intro w9 hb hg hz; have V9 := yH (show Blk w9 w7.heap.size 217 #[.slice (some ⟨nb, no, none⟩) 1 q] from hb); have X9 := yH (bl_g X8.out hg (Nat.le_refl _)); clear hb hg hz; simp only [Act.put, yA, yB, yC]))
 have Q9 := yH (show w9.rangeAt nb no ndE.toList ∧ nb < w9.heap.size from ⟨range_below R7.out.1 X9.out, Nat.lt_of_lt_of_le R7.out.2 X9.out.size⟩)
 have X59 := yH (below_chain X7.out X9.out)
 have B9 := yH (B5.out.below X59.out B5.out.lt)
 have A9 := yH (A5.out.below X59.out A5.out.lt)
 have C9 := yH (C5.out.below X59.out)
 have L9 := yH (below_chain L5.out X59.out)
 have LB := yH (show hb < w7.heap.size from by have := B5.out.lt; have := X7.out.size; omega)
 clear A5 B5 C5 S5 L5 T6 X6 X7 X8 X9 G8 R7 X59
 generalize w7.heap.size = lb at *
 obtain ⟨P0, hP0⟩ : ∃ P0, pagesI Y.geo = P0 := ⟨_, rfl⟩
 have HP0 := yH hP0
 have E6 := yH (show decide ((1 : Int) > P0) = false from decide_eq_false (by have := pages_ge HR.out; omega))
 clear hP0
 refine wp_region_qs (fun _ w' => w'.cell? ⟨lb, 0, none⟩ = some (.slice (some ⟨nb, no, none⟩) 1 q) ∧ w'.rangeAt hb 0 (geC Y.geo)) [(0, some 1), (1, some 1), (2, some 1), (3, some 0), (4, none), (5, some 1)] (by kernel_rfl) (by kernel_rfl) (by kernel_rfl) (by kernel_rfl) (by kernel_rfl) (fun _ _ _ _ _ h => h) ⟨V9.out.cell rfl, B9.out.part 0 (geC Y.geo) rfl⟩ ?_
 simp only [yD, yE, yF, yG]
 (repeat (first | ((first | (refine qs_row (by rfl) 66 (.tmp 68) (by with_reducible rfl) (hb) 0 (by rfl) (geC Y.geo) _ (fun j w h1 h2 hS => hS.2) Tryz.underlying66 rfl (geC_info _) ?_) | (refine qs_mid (v := ?_) (by rfl) ?_ ?_; rotate_left 1; (· (intro j w' hj1 hj2 hS; have hS1 := hS.1; have d6 := E6.out; clear hS; go_simp; (try (simp only [↓IntWalk.iteOmega]; go_simp)); (try simp (disch := omega) only [IntWalk.i64_in]); try with_reducible rfl)))); simp only [Act.put, yA, yB, yC]) | (refine qs_mid (v := ?_) (by rfl) ?_ ?_; rotate_left 1; (· (intro j w' hj1 hj2 hS; go_simp; (try (simp only [↓IntWalk.iteOmega]; go_simp)); (try simp (disch := omega) only [IntWalk.i64_in]); try with_reducible rfl)); simp only [Act.put, yA, yB, yC]) | (refine qs_skip (by rfl) ?_; simp only [Act.put, yA, yB, yC])))
 refine qs_act ?_
 go_wp2_with (go_at_call 277; refine (pagesG_any HY.out.1).mono ?_; rewrite [pagesG_right HR.out, HP0.out]; rintro e w10 ⟨rfl, hl⟩; have X10 := yH (show Below w9.heap.size w9 w10 from below_chain (Below.refl w9.heap.size w9).drew hl); clear hl)
 have B10 := yH (B9.out.below X10.out B9.out.lt)
 have A10 := yH (A9.out.below X10.out A9.out.lt)
 have V10 := yH (V9.out.below X10.out V9.out.lt)
 have C10 := yH (C9.out.below X10.out)
 have L10 := yH (below_chain L9.out X10.out)
 have Q10 := yH (show w10.rangeAt nb no ndE.toList ∧ nb < w10.heap.size from ⟨range_below Q9.out.1 X10.out, Nat.lt_of_lt_of_le Q9.out.2 X10.out.size⟩)
 refine ⟨⟨V10.out.cell rfl, B10.out.part 0 (geC Y.geo) rfl⟩, ?_⟩
 (repeat (first | ((first | (refine qs_row (by rfl) 66 (.tmp 68) (by with_reducible rfl) (hb) 0 (by rfl) (geC Y.geo) _ (fun j w h1 h2 hS => hS.2) Tryz.underlying66 rfl (geC_info _) ?_) | (refine qs_mid (v := ?_) (by rfl) ?_ ?_; rotate_left 1; (· (intro j w' hj1 hj2 hS; have hS1 := hS.1; have d6 := E6.out; clear hS; go_simp; (try (simp only [↓IntWalk.iteOmega]; go_simp)); (try simp (disch := omega) only [IntWalk.i64_in]); try with_reducible rfl)))); simp only [Act.put, yA, yB, yC]) | (refine qs_mid (v := ?_) (by rfl) ?_ ?_; rotate_left 1; (· (intro j w' hj1 hj2 hS; go_simp; (try (simp only [↓IntWalk.iteOmega]; go_simp)); (try simp (disch := omega) only [IntWalk.i64_in]); try with_reducible rfl)); simp only [Act.put, yA, yB, yC]) | (refine qs_skip (by rfl) ?_; simp only [Act.put, yA, yB, yC])))
 refine qs_nil ?_
 have v10 : w10.cell? ⟨lb, 0, none⟩ = some (.slice (some ⟨nb, no, none⟩) 1 q) := V10.out.cell rfl
 clear A9 B9 V9 C9 L9 Q9 X10 E6
 go_upto_region 9 with (first
  | (refine wpl_set rfl 3 (.tmp 75) (.tmp 73) (by rfl) hb 6 (.int .i64 1) (by rfl) (by rfl) _ _ B10.out info_i1 (show 6 < 9 by omega) (by rfl) (by rfl) ?_; intro w11 hb1 hg hz; have B11 := yH hb1; have G11 := yH hg; clear hb1 hg hz; simp only [Act.put, yA, yB, yC])
  | (refine wpl_set rfl 3 (.tmp 76) (.tmp 74) (by rfl) hb 7 (.int .i64 0) (by rfl) (by rfl) _ _ B11.out info_i1 (by rw [Array.size_setIfInBounds]; show 7 < 9; omega) (by rfl) (by rfl) ?_; intro w12 hb1 hg hz; have B12 := yH hb1; have G12 := yH (G11.out.trans hg); clear hb1 hg hz; simp only [Act.put, yA, yB, yC]))
 obtain ⟨Z, hZ⟩ : ∃ Z : Hd, Z = ⟨g, (m : Int), 1, 0, sn⟩ := ⟨_, rfl⟩
 have HZ := yH (show HdOk Z ∧ Z.geo = g ∧ Z.num = (m : Int) from by
  have e := HE.out
  have k := HK.out
  have hr := HR.out
  have hp := pages_ge hr
  rw [e.2.1] at hr k hp
  rw [e.2.2.1, e.2.2.2] at k
  rw [hZ]
  exact ⟨⟨hr, k.2.1, ⟨by show (1 : Int) ≤ 1; omega, by show (1 : Int) ≤ pagesI g; omega⟩, ⟨by show (0 : Int) ≤ 0; omega, by show (0 : Int) < 1; omega⟩, k.2.2⟩, rfl, rfl⟩)
 have Z12 := yH (show Blk w12 hb 123 (hdC Z).toArray from by
  have h := B12.out
  rw [HE.out.1, hd_sets, ← hZ] at h
  exact h)
 have hlt := H.out.lts
 have hwb := WB.out
 have hlb := LB.out
 have hnb := NB.out
 have hwb2 := HWB.out
 have HX := yH (sv_room (g := g) (by have h := HR.out; rwa [HE.out.2.1] at h) (by have h := HK.out.1; rwa [HE.out.2.1] at h) HP.out.2.1 HP.out.2.2.2)
 have C12 := yH (cc_over C10.out B10.out (by decide) G12.out (by omega))
 have L12 := yH (bl_g L10.out G12.out (by omega))
 have A12 := yH (A10.out.grown G12.out (by simp; omega))
 have V12 := yH (V10.out.grown G12.out (by simp; omega))
 have Q12 := yH (show w12.rangeAt nb no ndE.toList ∧ nb < w12.heap.size from ⟨range_grown Q10.out.1 G12.out (by omega), Nat.lt_of_lt_of_le Q10.out.2 G12.out.size⟩)
 have HF := yH (hd_put HZ.out.1 (w := w12))
 have HZZ := yH hZ
 clear hZ hlt hwb hlb hnb hwb2 A10 B10 V10 C10 Q10 L10 B11 B12 G11 G12 v10 HE HK HR HY HP0 HSS hn0
 go_upto_region 10 with (first
  | (refine wpl_load_blk rfl 123 (.tmp 4) (by rfl) hb (by rfl) 123 _ Z12.out _ Tryz.underlying123 rfl 9 (hdC_info Z) rfl ?_; simp only [Act.put, yA, yB, yC])
  | (go_at_call 278; refine HF.out.mono ?_; rintro e w13 ⟨r, rfl, hb1, hge, hl⟩; have R13 := yH (show Blk w13 r 5 (bV (hdRow Z)).toArray from hb1); have X13 := yH hl; clear hb1 hge hl)
  | (refine wpl_alloc_zero rfl 25 (by rfl) (z := .slice none 0 0) Tryz.zeroValue25 ?_; intro w14 hk hg hz; have D14 := yH (show Blk w14 w13.heap.size 25 #[.slice none 0 0] from hk); have X14 := yH (bl_n (Below.refl _ w13) hg); clear hk hg hz; simp only [Act.put, yA, yB, yC])
  | (refine wpl_set rfl 25 (.tmp 9) (.tmp 80) (by rfl) w13.heap.size 0 (.slice (some ⟨r, 0, none⟩) 512 512) (by rfl) (by rfl) _ _ D14.out info_sl1 (show 0 < 1 by omega) (by rfl) (by rfl) ?_; intro w15 hb1 hg hz; have D15 := yH (show Blk w15 w13.heap.size 25 #[.slice (some ⟨r, 0, none⟩) 512 512] from hb1); have X15 := yH (bl_g X14.out hg (Nat.le_refl _)); clear hb1 hg hz; simp only [Act.put, yA, yB, yC]))
 have X := yH (below_chain X13.out X15.out)
 have R15 := yH (R13.out.below X15.out R13.out.lt)
 have I15 := yH (show SvI w c kb d sb ob n L N ar hf J m Z wb hb lb w13.heap.size (some ⟨r, 0, none⟩) 512 nb no q 0 w15 from
  ⟨⟨A12.out.below X.out A12.out.lt, Z12.out.below X.out Z12.out.lt, D15.out, bsrc_blk R15.out (hdRow_len Z), Nat.le_refl _⟩, C12.out.below X.out, Tch.below (below_chain L12.out X.out), fun _ => ⟨V12.out.below X.out V12.out.lt, range_below Q12.out.1 X.out, Nat.lt_of_lt_of_le Q12.out.2 X.out.size⟩⟩)
 clear A12 Z12 V12 C12 L12 Q12 HF R13 X13 D14 X14 D15 X15 X R15
 generalize w13.heap.size = bb at *
 have a15 : w15.cell? ⟨wb, 0, none⟩ = some (.pointer (some ⟨c, 0, none⟩)) := I15.out.bx.a.cell rfl
 go_wp2_with fail
 clear a15
 go_loopg [93] 5 (fun k iv wk => SvL w c kb d sb ob n L N ar hf J m Z wb hb lb bb (some ⟨r, 0, none⟩) 512 nb no q k iv wk)
 case atStart => exact ⟨0, rfl, rfl, I15.out⟩
 case round =>
  obtain ⟨i, rfl, hik, hI⟩ := hrel
  have I := yH hI
  have IK := yH hik
  clear hI hik I15
  have hi : i = 0 ∨ i = 1 ∨ i = 2 ∨ i = 3 ∨ i = 4 ∨ i = 5 := by have := IK.out; omega
  rcases hi with rfl | rfl | rfl | rfl | rfl | rfl
  ·have lv := I.out.lv rfl
   have LV := yH lv
   clear lv
   have a0 : wr.cell? ⟨wb, 0, none⟩ = some (.pointer (some ⟨c, 0, none⟩)) := I.out.bx.a.cell rfl
   have F := yH (sv_cl1 I.out.cc HZ.out.1 I.out.bx LV.out.1 LV.out.2.1 LV.out.2.2 m ar HZ.out.2.2 (by rw [HZ.out.2.1]; exact HP.out.2.1) HX.out.1 (by have := HP.out.1; show N ≤ 800000; omega))
   go_wp2_with (first
    | (with_reducible refine wpl_valP (v := .func (.func 279) #[] #[.pointer (some ⟨wb, 0, none⟩), .pointer (some ⟨hb, 0, none⟩), .pointer (some ⟨lb, 0, none⟩)]) (by kernel_rfl) (idx_run (x := .tmp 92) (y := .tmp 93) (arr := #[.func (.func 279) #[] #[.pointer (some ⟨wb, 0, none⟩), .pointer (some ⟨hb, 0, none⟩), .pointer (some ⟨lb, 0, none⟩)], .func (.func 281) #[] #[.pointer (some ⟨wb, 0, none⟩), .pointer (some ⟨hb, 0, none⟩)], .func (.func 79) #[.pointer (some ⟨c, 0, none⟩)] #[], .func (.func 283) #[] #[.pointer (some ⟨wb, 0, none⟩), .pointer (some ⟨hb, 0, none⟩), .pointer (some ⟨bb, 0, none⟩)], .func (.func 79) #[.pointer (some ⟨c, 0, none⟩)] #[]]) (i := 0) (by with_reducible rfl) (by kernel_rfl) (by kernel_rfl) (by kernel_rfl)) ?_; simp only [Act.put, yA, yB, yC])
    | (go_at_call 279; refine F.out.mono ?_; rintro e w16 ⟨rfl, hC, hT⟩; have C16 := yH hC; have T16 := yH hT; clear hC hT))
   have I16 := yH (SvI.next I.out C16.out T16.out)
   go_roundg 4
   case measure => have := IK.out; omega
   case rel => exact ⟨1, rfl, rfl, I16.out⟩
  ·have a0 : wr.cell? ⟨wb, 0, none⟩ = some (.pointer (some ⟨c, 0, none⟩)) := I.out.bx.a.cell rfl
   have F := yH (sv_cl2 I.out.cc HZ.out.1 I.out.bx m J hf HZ.out.2.2 (by rw [HZ.out.2.1]; exact HP.out.2.2.2) (by rw [HZ.out.2.1]; exact HP.out.2.2.1) (by rw [HZ.out.2.1]; exact HX.out.2.1) (by have := HP.out.1; show N + 2 ≤ 800000; omega))
   go_wp2_with (first
    | (with_reducible refine wpl_valP (v := .func (.func 281) #[] #[.pointer (some ⟨wb, 0, none⟩), .pointer (some ⟨hb, 0, none⟩)]) (by kernel_rfl) (idx_run (x := .tmp 92) (y := .tmp 93) (arr := #[.func (.func 279) #[] #[.pointer (some ⟨wb, 0, none⟩), .pointer (some ⟨hb, 0, none⟩), .pointer (some ⟨lb, 0, none⟩)], .func (.func 281) #[] #[.pointer (some ⟨wb, 0, none⟩), .pointer (some ⟨hb, 0, none⟩)], .func (.func 79) #[.pointer (some ⟨c, 0, none⟩)] #[], .func (.func 283) #[] #[.pointer (some ⟨wb, 0, none⟩), .pointer (some ⟨hb, 0, none⟩), .pointer (some ⟨bb, 0, none⟩)], .func (.func 79) #[.pointer (some ⟨c, 0, none⟩)] #[]]) (i := 1) (by with_reducible rfl) (by kernel_rfl) (by kernel_rfl) (by kernel_rfl)) ?_; simp only [Act.put, yA, yB, yC])
    | (go_at_call 281; refine F.out.mono ?_; rintro e w16 ⟨rfl, hC, hT⟩; have C16 := yH hC; have T16 := yH hT; clear hC hT))
   have I16 := yH (SvI.next I.out C16.out T16.out)
   go_roundg 3
   case measure => have := IK.out; omega
   case rel => exact ⟨2, rfl, rfl, I16.out⟩
  ·have a0 : wr.cell? ⟨wb, 0, none⟩ = some (.pointer (some ⟨c, 0, none⟩)) := I.out.bx.a.cell rfl
   have F := yH (ci_sync I.out.cc (by have := HP.out.1; have := HX.out; show N + 2 + J ≤ 1000000; omega))
   go_wp2_with (first
    | (with_reducible refine wpl_valP (v := .func (.func 79) #[.pointer (some ⟨c, 0, none⟩)] #[]) (by kernel_rfl) (idx_run (x := .tmp 92) (y := .tmp 93) (arr := #[.func (.func 279) #[] #[.pointer (some ⟨wb, 0, none⟩), .pointer (some ⟨hb, 0, none⟩), .pointer (some ⟨lb, 0, none⟩)], .func (.func 281) #[] #[.pointer (some ⟨wb, 0, none⟩), .pointer (some ⟨hb, 0, none⟩)], .func (.func 79) #[.pointer (some ⟨c, 0, none⟩)] #[], .func (.func 283) #[] #[.pointer (some ⟨wb, 0, none⟩), .pointer (some ⟨hb, 0, none⟩), .pointer (some ⟨bb, 0, none⟩)], .func (.func 79) #[.pointer (some ⟨c, 0, none⟩)] #[]]) (i := 2) (by with_reducible rfl) (by kernel_rfl) (by kernel_rfl) (by kernel_rfl)) ?_; simp only [Act.put, yA, yB, yC])
    | (go_at_call 79; refine F.out.mono ?_; rintro e w16 ⟨rfl, hC, hT⟩; have C16 := yH hC; have T16 := yH hT; clear hC hT))
   have I16 := yH (SvI.next I.out C16.out T16.out)
   go_roundg 2
   case measure => have := IK.out; omega
   case rel => exact ⟨3, rfl, rfl, I16.out⟩
  ·have a0 : wr.cell? ⟨wb, 0, none⟩ = some (.pointer (some ⟨c, 0, none⟩)) := I.out.bx.a.cell rfl
   have F := yH (sv_cl3 I.out.cc HZ.out.1 I.out.bx m HZ.out.2.2 HX.out.2.2.1 (by have := HP.out.1; have := HX.out; show N + 2 + J + 1 ≤ 800000; omega))
   go_wp2_with (first
    | (with_reducible refine wpl_valP (v := .func (.func 283) #[] #[.pointer (some ⟨wb, 0, none⟩), .pointer (some ⟨hb, 0, none⟩), .pointer (some ⟨bb, 0, none⟩)]) (by kernel_rfl) (idx_run (x := .tmp 92) (y := .tmp 93) (arr := #[.func (.func 279) #[] #[.pointer (some ⟨wb, 0, none⟩), .pointer (some ⟨hb, 0, none⟩), .pointer (some ⟨lb, 0, none⟩)], .func (.func 281) #[] #[.pointer (some ⟨wb, 0, none⟩), .pointer (some ⟨hb, 0, none⟩)], .func (.func 79) #[.pointer (some ⟨c, 0, none⟩)] #[], .func (.func 283) #[] #[.pointer (some ⟨wb, 0, none⟩), .pointer (some ⟨hb, 0, none⟩), .pointer (some ⟨bb, 0, none⟩)], .func (.func 79) #[.pointer (some ⟨c, 0, none⟩)] #[]]) (i := 3) (by with_reducible rfl) (by kernel_rfl) (by kernel_rfl) (by kernel_rfl)) ?_; simp only [Act.put, yA, yB, yC])
    | (go_at_call 283; refine F.out.mono ?_; rintro e w16 ⟨rfl, hC, hT⟩; have C16 := yH hC; have T16 := yH hT; clear hC hT))
   have I16 := yH (SvI.next I.out C16.out T16.out)
   go_roundg 1
   case measure => have := IK.out; omega
   case rel => exact ⟨4, rfl, rfl, I16.out⟩
  ·have a0 : wr.cell? ⟨wb, 0, none⟩ = some (.pointer (some ⟨c, 0, none⟩)) := I.out.bx.a.cell rfl
   have F := yH (ci_sync I.out.cc (by have := HP.out.1; have := HX.out; show N + 2 + J + 1 + 1 ≤ 1000000; omega))
   go_wp2_with (first
    | (with_reducible refine wpl_valP (v := .func (.func 79) #[.pointer (some ⟨c, 0, none⟩)] #[]) (by kernel_rfl) (idx_run (x := .tmp 92) (y := .tmp 93) (arr := #[.func (.func 279) #[] #[.pointer (some ⟨wb, 0, none⟩), .pointer (some ⟨hb, 0, none⟩), .pointer (some ⟨lb, 0, none⟩)], .func (.func 281) #[] #[.pointer (some ⟨wb, 0, none⟩), .pointer (some ⟨hb, 0, none⟩)], .func (.func 79) #[.pointer (some ⟨c, 0, none⟩)] #[], .func (.func 283) #[] #[.pointer (some ⟨wb, 0, none⟩), .pointer (some ⟨hb, 0, none⟩), .pointer (some ⟨bb, 0, none⟩)], .func (.func 79) #[.pointer (some ⟨c, 0, none⟩)] #[]]) (i := 4) (by with_reducible rfl) (by kernel_rfl) (by kernel_rfl) (by kernel_rfl)) ?_; simp only [Act.put, yA, yB, yC])
    | (go_at_call 79; refine F.out.mono ?_; rintro e w16 ⟨rfl, hC, hT⟩; have C16 := yH hC; have T16 := yH hT; clear hC hT))
   have I16 := yH (SvI.next I.out C16.out T16.out)
   go_roundg 0
   case measure => have := IK.out; omega
   case rel => exact ⟨5, rfl, rfl, I16.out⟩
  ·have J5 := yH (And.intro I.out.cc I.out.low)
   go_wp2_with fail
   go_ret
   have hz := HZZ.out
   subst hz
   exact ⟨rfl, J5.out.1, J5.out.2⟩
end Go.Proofs.YtffalfacakdhkaaGreatDoor
