/-
  what this claim needs of: DkI4, DkC3, DkI5 (written by cut.py).
-/
import Derived.Test.YtffalfacakdhkaaGreatDoorDDkJ3
import Derived.Test.YtffalfacakdhkaaGreatDoorDDkO4
import Derived.Test.YtffalfacakdhkaaGreatDoorDDkA3
namespace Go.Proofs.YtffalfacakdhkaaGreatDoor
open Go.RowKit Go.Maps Go.Shelf
set_option linter.unusedVariables false
set_option linter.unusedSimpArgs false
theorem built_im (d c si : Nat) : Tryz.prog.built 148 [(0, .pointer (some ⟨d, 0, none⟩)), (1, .pointer (some ⟨c, 0, none⟩)), (2, .agg (hdC hdZ0).toArray), (3, .pointer (some ⟨si, 0, none⟩))] = some (imZ d c si).toArray := by kernel_rfl
/-- An image that has been made behind W. -/
def NewIm [gm : Inhabited GMk] (W : World) (d sb ob N : Nat) (v : Value) (w' : World) : Prop := ∃ i : ImI, v = .pointer (some ⟨i.x, 0, none⟩) ∧ i.d = d ∧ i.sb = sb ∧ i.ob = ob ∧ ImIs w' i N 0 hdZ1 [] ∧ Tch [sb, ob] W w' ∧ ∀ k ∈ imT i, k = sb ∨ k = ob ∨ W.heap.size ≤ k
set_option maxRecDepth 100000 in
set_option maxHeartbeats 1000000 in
theorem im_begun [gm : Inhabited GMk] {W w : World} {c kb d sb ob N si xi bx mi bs : Nat} {L : Int → Sec} (h : CcI w c kb d sb ob 400 L N) (hs : StIs w si xi bx mi bs 8 [] zF []) (hN : N ≤ 1000) (hf : (bx ≠ kb ∧ bx ≠ sb ∧ bx ≠ ob) ∧ (bs ≠ kb ∧ bs ≠ sb ∧ bs ≠ ob)) (hT : Tch [sb, ob] W w) (hc : W.heap.size ≤ c ∧ W.heap.size ≤ kb) (hb : W.heap.size ≤ bx ∧ W.heap.size ≤ mi ∧ W.heap.size ≤ bs) :
  Calls Tryz.prog 80 #[.pointer (some ⟨d, 0, none⟩), .pointer (some ⟨c, 0, none⟩), .agg (hdC hdZ0).toArray, .pointer (some ⟨si, 0, none⟩)] w fun e w' => ∃ v, e = .returned (.tuple #[v, .int .i64 0]) ∧ NewIm W d sb ob (N + 21) v w' ∧ Tch [c, kb, sb, ob] w w' := by
 have H := yH h
 have HS := yH hs
 have HF := yH hf
 have HT := yH hT
 have HC := yH hc
 have HBB := yH hb
 have HN := yH hN
 clear h hs hN hf hT hc hb
 go_enter Tryz.func80, Tryz.ntmps80
 go_wp2_with (first
  | (refine wpl_box rfl 123 (.tmp 2) rfl _ rfl ?_; intro w1 hk hg hz; have K1 := yH hk; have L1 := yH (bl_n (Below.refl _ w) hg); clear hk hg hz; simp only [Act.put, yA, yB, yC])
  | (refine wpl_load_blk rfl 123 (.tmp 6) (by rfl) w.heap.size (by rfl) 123 _ K1.out _ Tryz.underlying123 rfl 9 (hdC_info hdZ0) rfl ?_; simp only [Act.put, yA, yB, yC])
  | (refine wpl_mk rfl 148 #[(0, .tmp 12), (1, .tmp 13), (2, .tmp 14), (3, .tmp 15)] (by rfl) [(0, .pointer (some ⟨d, 0, none⟩)), (1, .pointer (some ⟨c, 0, none⟩)), (2, .agg (hdC hdZ0).toArray), (3, .pointer (some ⟨si, 0, none⟩))] (by rfl) _ (built_im d c si) ?_; simp only [Act.put, yA, yB, yC])
  | (refine wpl_box rfl 148 (.tmp 16) (by rfl) _ (by rfl) ?_; intro w2 hk hg hz; have X2 := yH (show Blk w2 w1.heap.size 148 (imZ d c si).toArray from hk); have L2 := yH (bl_n L1.out hg); clear hk hg hz; simp only [Act.put, yA, yB, yC])
  | (go_at_call 144; refine (im_settle (H.out.below L2.out) (HS.out.below L2.out) X2.out HN.out HF.out).mono ?_; rintro e w3 ⟨rfl, ⟨jb, rb, hI, hjb⟩, hT⟩; have I3 := yH hI; have T3 := yH hT; have GJ := yH hjb; clear hI hT hjb))
 go_ret2
 have h1 := L1.out.size
 refine ⟨_, rfl, ⟨⟨w1.heap.size, c, kb, d, sb, ob, si, xi, bx, mi, bs, jb, rb⟩, rfl, rfl, rfl, rfl, I3.out, ?_, ?_⟩, (Tch.below L2.out).fresh T3.out (fun k hk => by simp at hk ⊢; omega)⟩
 ·have h0 := HT.out.size
  exact HT.out.fresh ((Tch.below L2.out).trans T3.out) (fun k hk => by
   have h2 := HC.out
   simp at hk ⊢
   omega)
 ·intro k hk
  have h0 := HT.out.size
  have h2 := HC.out
  have h3 := HBB.out
  have h4 := GJ.out
  have h5 := L2.out.size
  unfold imT at hk
  simp at hk
  omega
def zs512 : List Value := List.replicate 512 (Value.int .u8 0)
theorem bsrc_zs {W : World} {g : Nat} (h : Blk W g 5 zs512.toArray) : BSrc W (some ⟨g, 0, none⟩) (512 * 1) (List.replicate (512 * 1) (Value.int .u8 0)) := by
 have e : bV (List.replicate 512 (0 : Int)) = zs512 := by unfold bV zs512; rw [List.map_replicate]
 rw [← e] at h
 have := bsrc_full h 512 (by rw [List.length_replicate])
 rw [e] at this
 unfold zs512 at this
 exact this
theorem ci_first [gm : Inhabited GMk] {w : World} {d sb ob n : Nat} (h : DkIs w d sb ob n [] []) (hg : ∀ g, gmG g → g < w.heap.size) : Calls Tryz.prog 76 #[.pointer (some ⟨d, 0, none⟩), .int .i64 64] w fun e w' => ∃ c kb, e = .returned (.pointer (some ⟨c, 0, none⟩)) ∧ CcI w' c kb d sb ob n (fun _ => zSec) 0 ∧ Below w.heap.size w w' ∧ w.heap.size ≤ c ∧ w.heap.size ≤ kb := by
 refine (cc_new h).mono ?_
 rintro e w' ⟨c2, kb2, he, hC, hb, hg2⟩
 exact ⟨c2, kb2, he, ⟨[], [], [], hC, fun i => rfl, by simp, by simp, fun g hk => ⟨Nat.lt_of_lt_of_le (hg g hk) hb.size, fun p hp => by cases hp⟩⟩, hb, hg2⟩
theorem built_hd : Tryz.prog.built 123 [(0, .agg (geC geS).toArray), (4, .int .i64 1)] = some (hdC hdZ0).toArray := by kernel_rfl
theorem secs_S (w : World) : Calls Tryz.prog 75 #[.agg (geC geS).toArray] w fun e w' => e = .returned (.int .i64 362) ∧ Below w.heap.size w w' := by
 have := secs_any geS_geB (w := w)
 rwa [show secsG geS = 362 from by unfold secsG; rw [if_pos geS_right]; rfl] at this
theorem slot_i (i : Nat) (hi : i < 2) (w : World) : Calls Tryz.prog 78 #[.agg (geC geS).toArray, .int .i64 (i : Int)] w fun e w' => e = .returned (.int .i64 (i : Int)) ∧ Below w.heap.size w w' := by
 have := slot_any geS_geB geS_right (w := w) i (by omega)
 rwa [Nat.mod_eq_of_lt hi] at this
def FmR [gm : Inhabited GMk] (w : World) (c kb d sb ob i : Nat) (v : Value) (w' : World) : Prop := (∃ L', CcI w' c kb d sb ob 400 L' (i + 1)) ∧ Tch [c, kb, sb, ob] w w'
def FmI [gm : Inhabited GMk] (W : World) (gb c kb d sb ob : Nat) (m : Nat) (iv : Value) (wr : World) : Prop := ∃ i : Nat, iv = .int .i64 (i : Int) ∧ i + m = 2 ∧ (∃ L', CcI wr c kb d sb ob 400 L' i) ∧ Blk wr gb 66 (geC geS).toArray ∧ Tch [sb, ob] W wr
set_option maxRecDepth 100000 in
set_option maxHeartbeats 2000000 in
theorem im_format [gm : Inhabited GMk] {W : World} {d sb ob : Nat} (h : DkIs W d sb ob 400 [] []) (hg : ∀ g, gmG g → g < W.heap.size) :
  Calls Tryz.prog 35 #[.pointer (some ⟨d, 0, none⟩), .agg (geC geS).toArray] W fun e w' => ∃ v N, e = .returned (.tuple #[v, .int .i64 0]) ∧ N ≤ 100 ∧ NewIm W d sb ob N v w' := by
 have H := yH h
 have HG := yH hg
 clear h hg
 go_enter Tryz.func35, Tryz.ntmps35
 go_upto_region 3 with (first
  | (refine wpl_box rfl 66 (.tmp 1) rfl _ rfl ?_; intro w1 hk hg hz; have K1 := yH (show Blk w1 W.heap.size 66 (geC geS).toArray from hk); have L1 := yH (bl_n (Below.refl _ W) hg); clear hk hg hz; simp only [Act.put, yA, yB, yC])
  | (go_at_call 73; refine (dk_sectors (H.out.below L1.out)).mono ?_; rintro e w2 ⟨rfl, rfl⟩))
 have LD := yH (show Below W.heap.size W w1.drew from L1.out.drew)
 have KK := yH (show ∀ W', Below w1.heap.size w1 W' → W'.rangeAt W.heap.size 0 (geC geS) from fun W' hb => by
  have h := (K1.out.below hb K1.out.lt).range; rwa [List.toList_toArray] at h)
 refine wp_region_qs (fun _ w' => w'.rangeAt W.heap.size 0 (geC geS)) [(0, some 2), (1, none), (2, some 3), (3, some 1), (4, some 2), (6, some 2), (5, none), (7, none), (8, some 3), (9, some 3), (10, some 3)] (by kernel_rfl) (by kernel_rfl) (by kernel_rfl) (by kernel_rfl) (by kernel_rfl) (fun _ _ _ _ _ h => h) (KK.out _ (Below.refl _ w1).drew) ?_
 simp only [yD, yE, yF, yG]
 (repeat (first | ((refine qs_row (by rfl) 66 (.tmp 3) (by with_reducible rfl) W.heap.size 0 (by rfl) (geC geS) _ (fun j w' _ h2 h => h) Tryz.underlying66 rfl (geC_info _) ?_); simp only [Act.put, yA, yB, yC]) | (refine qs_mid (v := ?_) (by rfl) ?_ ?_; rotate_left 1; (· (intro j w' hj1 hj2 hS; go_simp; (try (simp only [↓IntWalk.iteOmega]; go_simp)); (try simp (disch := omega) only [IntWalk.i64_in]); try with_reducible rfl)); simp only [Act.put, yA, yB, yC]) | (refine qs_skip (by rfl) ?_; simp only [Act.put, yA, yB, yC])))
 refine qs_act ?_
 go_wp2_with (go_at_call 74; refine (right_any geS_geB).mono ?_; rewrite [decide_eq_true geS_right]; rintro e w2 ⟨rfl, hl⟩; have L2 := yH (below_chain (Below.refl w1.heap.size w1).drew hl); clear hl)
 refine ⟨KK.out _ L2.out, ?_⟩
 (repeat (first | ((refine qs_row (by rfl) 66 (.tmp 3) (by with_reducible rfl) W.heap.size 0 (by rfl) (geC geS) _ (fun j w' _ h2 h => h) Tryz.underlying66 rfl (geC_info _) ?_); simp only [Act.put, yA, yB, yC]) | (refine qs_mid (v := ?_) (by rfl) ?_ ?_; rotate_left 1; (· (intro j w' hj1 hj2 hS; go_simp; (try (simp only [↓IntWalk.iteOmega]; go_simp)); (try simp (disch := omega) only [IntWalk.i64_in]); try with_reducible rfl)); simp only [Act.put, yA, yB, yC]) | (refine qs_skip (by rfl) ?_; simp only [Act.put, yA, yB, yC])))
 refine qs_act ?_
 go_wp2_with (go_at_call 73; refine (dk_sectors (H.out.below (below_chain L1.out L2.out))).mono ?_; rintro e w3 ⟨rfl, rfl⟩)
 refine ⟨KK.out _ L2.out, ?_⟩
 refine qs_act ?_
 go_wp2_with (go_at_call 75; refine (secs_S w2).mono ?_; rintro e w3 ⟨rfl, hl⟩; have L3 := yH (below_chain L2.out hl); clear hl)
 refine ⟨KK.out _ L3.out, ?_⟩
 (repeat (first | (refine qs_mid (v := ?_) (by rfl) ?_ ?_; rotate_left 1; (· (intro j w' hj1 hj2 hS; go_simp; (try (simp only [↓IntWalk.iteOmega]; go_simp)); (try simp (disch := omega) only [IntWalk.i64_in]); try with_reducible rfl)); simp only [Act.put, yA, yB, yC]) | (refine qs_skip (by rfl) ?_; simp only [Act.put, yA, yB, yC])))
 refine qs_nil ?_
 have L03 := yH (below_chain L1.out L3.out)
 have K3 := yH (K1.out.below L3.out K1.out.lt)
 have H3 := yH (H.out.below L03.out)
 have HG3 := yH (fun g hg => Nat.lt_of_lt_of_le (HG.out g hg) L03.out.size)
 clear K1 L1 LD KK L2 L3 H HG
 go_wp2_with (go_at_call 76; refine (ci_first H3.out HG3.out).mono ?_; rintro e w4 ⟨c, kb, rfl, hC, hl, hc1, hc2⟩; have C4 := yH hC; have L4 := yH (below_chain L03.out hl); have K4 := yH (K3.out.below hl K3.out.lt); have GC := yH (show W.heap.size ≤ c ∧ W.heap.size ≤ kb from ⟨Nat.le_trans L03.out.size hc1, Nat.le_trans L03.out.size hc2⟩); clear hC hl hc1 hc2)
 clear K3 H3 HG3 L03
 go_loopg [27] 2 (fun m iv wr => FmI W W.heap.size c kb d sb ob m iv wr)
 case atStart => exact ⟨0, rfl, by omega, ⟨_, C4.out⟩, K4.out, Tch.below L4.out⟩
 case round =>
  obtain ⟨i, rfl, hi, ⟨L5, hC⟩, hK, hT⟩ := hrel
  have C5 := yH hC
  have K5 := yH hK
  have T5 := yH hT
  clear hC hK hT
  by_cases hik : i < 2
  ·have hI : (i : Int) < 2 := by omega
   have HSl := yH (fun W => slot_i i hik W)
   go_upto_region 9 with fail
   have KK := yH (show ∀ W', Below wr.heap.size wr W' → W'.rangeAt W.heap.size 0 (geC geS) from fun W' hb => by
    have h := (K5.out.below hb K5.out.lt).range; rwa [List.toList_toArray] at h)
   have LD := yH (Below.refl wr.heap.size wr).drew
   refine wp_region_two (fun _ w' => w'.rangeAt W.heap.size 0 (geC geS)) [3, 4, 5] [(0, 2), (1, 2), (2, 2)] 3 4 [(4, none), (5, none), (6, some 3)] [(3, none), (5, none), (6, some 3)]
    (FmR wr c kb d sb ob i)
    (fun a v => (((((((a.put (some 30) (.pointer (some ⟨c, 0, none⟩))).put (some 31) (.agg (geC geS).toArray)).put (some 32) (.int .i64 (i : Int))).put (some 33) (.int .i64 (i : Int))).put (some 34) v).put (some 35) (.int .i64 0)).put (some 8) (.int .i64 0)))
    _ _ (by kernel_rfl) rfl rfl (by kernel_rfl) (by kernel_rfl) (by kernel_rfl) (by kernel_rfl) (by kernel_rfl) (by kernel_rfl) (by kernel_rfl) (by kernel_rfl) rfl rfl (KK.out _ LD.out) ?_ ?_
   ·simp only [yD, yE, yF, yG]
    (repeat (first | ((refine qs_row (by rfl) 66 (.tmp 3) (by with_reducible rfl) W.heap.size 0 (by rfl) (geC geS) _ (fun j w' _ h2 h => h) Tryz.underlying66 rfl (geC_info _) ?_); simp only [Act.put, yA, yB, yC]) | (refine qs_mid (v := ?_) (by rfl) ?_ ?_; rotate_left 1; (· (intro j w' hj1 hj2 hS; go_simp; (try (simp only [↓IntWalk.iteOmega]; go_simp)); (try simp (disch := omega) only [IntWalk.i64_in]); try with_reducible rfl)); simp only [Act.put, yA, yB, yC]) | (refine qs_skip (by rfl) ?_; simp only [Act.put, yA, yB, yC])))
    refine qs_nil ?_
    refine ⟨toHeld ?_, toHeld ?_⟩
    ·go_wp2_with (go_at_call 78; refine (HSl.out _).mono ?_; rintro e w6 ⟨rfl, hl⟩; have L6 := yH (below_chain LD.out hl); clear hl)
     refine ⟨KK.out _ L6.out, ?_⟩
     refine qs_act ?_
     go_wp2_with (refine wpl_mkD rfl (.const (.int .i64 512)) (.const (.int .i64 512)) (by rfl) 512 512 (by rfl) (by rfl) (by omega) (by omega) ?_; intro w7 hb hg hz; have B7 := yH (show Blk w7 w6.heap.size 5 zs512.toArray from hb); have L7 := yH (bl_n L6.out hg); clear hb hg hz; simp only [Act.put, yA, yB, yC])
     refine ⟨KK.out _ L7.out, ?_⟩
     refine qs_act ?_
     go_wp2_with (go_at_call 77; refine (bl_zeros (C5.out.below L7.out) i 1 (by omega) (by omega) (bsrc_zs B7.out) (by omega) (by omega)).mono ?_; rintro e w8 ⟨rfl, hC, hT⟩; have C8 := yH hC; have T8 := yH (show Tch [c, kb, sb, ob] wr w8 from (Tch.below L7.out).trans hT); have R8 := yH ((K5.out.below L7.out K5.out.lt).cc (C5.out.below L7.out) hT (by decide)); clear hC hT)
     refine ⟨R8.out.part 0 (geC geS) rfl, ?_⟩
     (repeat (first | (refine qs_mid (v := ?_) (by rfl) ?_ ?_; rotate_left 1; (· (intro j w' hj1 hj2 hS; go_simp; (try (simp only [↓IntWalk.iteOmega]; go_simp)); (try simp (disch := omega) only [IntWalk.i64_in]); try with_reducible rfl)); simp only [Act.put, yA, yB, yC]) | (refine qs_skip (by rfl) ?_; simp only [Act.put, yA, yB, yC])))
     refine qs_nil ?_
     exact ⟨rfl, _, rfl, ⟨_, C8.out⟩, T8.out⟩
    ·go_wp2_with (refine wpl_mkD rfl (.const (.int .i64 512)) (.const (.int .i64 512)) (by rfl) 512 512 (by rfl) (by rfl) (by omega) (by omega) ?_; intro w6 hb hg hz; have B6 := yH (show Blk w6 wr.drew.heap.size 5 zs512.toArray from hb); have L6 := yH (bl_n LD.out hg); clear hb hg hz)
     refine ⟨KK.out _ L6.out, ?_⟩
     refine qs_act ?_
     go_wp2_with (go_at_call 78; refine (HSl.out _).mono ?_; rintro e w7 ⟨rfl, hl⟩; have L7 := yH (below_chain L6.out hl); have B7 := yH (B6.out.below hl B6.out.lt); clear hl)
     refine ⟨KK.out _ L7.out, ?_⟩
     refine qs_act ?_
     go_wp2_with (go_at_call 77; refine (bl_zeros (C5.out.below L7.out) i 1 (by omega) (by omega) (bsrc_zs B7.out) (by omega) (by omega)).mono ?_; rintro e w8 ⟨rfl, hC, hT⟩; have C8 := yH hC; have T8 := yH (show Tch [c, kb, sb, ob] wr w8 from (Tch.below L7.out).trans hT); have R8 := yH ((K5.out.below L7.out K5.out.lt).cc (C5.out.below L7.out) hT (by decide)); clear hC hT)
     refine ⟨R8.out.part 0 (geC geS) rfl, ?_⟩
     (repeat (first | (refine qs_mid (v := ?_) (by rfl) ?_ ?_; rotate_left 1; (· (intro j w' hj1 hj2 hS; go_simp; (try (simp only [↓IntWalk.iteOmega]; go_simp)); (try simp (disch := omega) only [IntWalk.i64_in]); try with_reducible rfl)); simp only [Act.put, yA, yB, yC]) | (refine qs_skip (by rfl) ?_; simp only [Act.put, yA, yB, yC])))
     refine qs_nil ?_
     exact ⟨rfl, _, rfl, ⟨_, C8.out⟩, T8.out⟩
   ·rintro v w8 ⟨⟨L8, hC⟩, hT⟩
    have C8 := yH hC
    have T8 := yH (T5.out.fresh hT (fun k hk => by have := GC.out; simp at hk ⊢; omega))
    have K8 := yH (K5.out.cc C5.out hT (by decide))
    clear hC hT LD KK
    simp only [Act.put, yA, yB, yC]
    go_wp2_with fail
    go_roundg (gk - 1)
    case measure => omega
    case rel => exact ⟨i + 1, by go_num, by omega, ⟨_, C8.out⟩, K8.out, T8.out⟩
  ·have hI : ¬ (i : Int) < 2 := by omega
   obtain rfl : i = 2 := by omega
   go_wp2_with (go_at_call 79; refine (ci_sync C5.out (by omega)).mono ?_; rintro e w6 ⟨rfl, hC, hT⟩; have C6 := yH hC; have T6 := yH (T5.out.fresh hT (fun k hk => by have := GC.out; simp at hk ⊢; omega)); have K6 := yH (K5.out.cc C5.out hT (by decide)); clear hC hT)
   have TL := yH (show W.heap.size ≤ w6.heap.size from T6.out.size)
   have c0 : w6.drew.cell? ⟨W.heap.size, 0, none⟩ = some (.int .i64 64) := K6.out.drew.cell rfl
   refine wp_region_qs (fun _ w' => w'.rangeAt W.heap.size 0 (geC geS) ∧ w'.cell? ⟨W.heap.size, 0, none⟩ = some (.int .i64 64)) [(0, some 1), (1, some 1), (2, some 2), (3, some 1), (4, some 2), (5, some 2), (6, some 1), (7, none), (8, none), (9, some 2), (10, some 2), (11, some 2), (12, some 2)] (by kernel_rfl) (by kernel_rfl) (by kernel_rfl) (by kernel_rfl) (by kernel_rfl) (fun _ _ _ _ _ h => h) ⟨K6.out.drew.part 0 (geC geS) rfl, c0⟩ ?_
   simp only [yD, yE, yF, yG]
   (repeat (first | ((first | (refine qs_row (by rfl) 66 (.tmp 3) (by with_reducible rfl) W.heap.size 0 (by rfl) (geC geS) _ (fun j w' _ h2 h => h.1) Tryz.underlying66 rfl (geC_info _) ?_) | (refine qs_mk (by rfl) 123 _ (by rfl) [(0, .agg (geC geS).toArray), (4, .int .i64 1)] (by rfl) (hdC hdZ0).toArray built_hd ?_)); simp only [Act.put, yA, yB, yC]) | (refine qs_mid (v := ?_) (by rfl) ?_ ?_; rotate_left 1; (· (intro j w' hj1 hj2 hS; go_simp; (try (simp only [↓IntWalk.iteOmega]; go_simp)); (try simp (disch := omega) only [IntWalk.i64_in]); try with_reducible rfl)); simp only [Act.put, yA, yB, yC]) | (refine qs_skip (by rfl) ?_; simp only [Act.put, yA, yB, yC])))
   refine qs_act ?_
   go_wp2_with (go_at_call 81; refine (st_new 8 (by omega) w6.drew).mono ?_; rintro e w7 ⟨si, xi, bx, mi, bs, rfl, hS, hl, g1, g2, g3, g4, g5⟩; have S7 := yH hS; have L7 := yH (below_chain (Below.refl w6.heap.size w6).drew hl); have G7 := yH (And.intro g3 g5); have G8 := yH (And.intro g3 (And.intro g4 g5)); clear hS hl g1 g2 g3 g4 g5)
   have K7 := yH (K6.out.below L7.out K6.out.lt)
   have C7 := yH (C6.out.below L7.out)
   have T7 := yH (T6.out.trans (Tch.below L7.out))
   refine ⟨⟨K7.out.part 0 (geC geS) rfl, K7.out.cell rfl⟩, ?_⟩
   refine qs_act ?_
   go_wp2_with (go_at_call 80; refine (im_begun C7.out S7.out (by omega) ?_ T7.out GC.out (by have h1 := G8.out; have h2 := T6.out.size; simp only [World.size_drew] at h1; omega)).mono ?_; rotate_left 1; rintro e w8 ⟨v, rfl, hv⟩; have V8 := yH hv; clear hv)
   ·have K8 := yH (K7.out.cc C7.out V8.out.2 (by decide))
    refine ⟨⟨K8.out.part 0 (geC geS) rfl, K8.out.cell rfl⟩, ?_⟩
    (repeat (first | (refine qs_mid (v := ?_) (by rfl) ?_ ?_; rotate_left 1; (· (intro j w' hj1 hj2 hS; go_simp; (try (simp only [↓IntWalk.iteOmega]; go_simp)); (try simp (disch := omega) only [IntWalk.i64_in]); try with_reducible rfl)); simp only [Act.put, yA, yB, yC]) | (refine qs_skip (by rfl) ?_; simp only [Act.put, yA, yB, yC])))
    refine qs_nil ?_
    go_wp2_with fail
    go_ret2
    exact ⟨v, _, rfl, by omega, V8.out.1⟩
   ·have h1 := C6.out.lts
    have h2 := G7.out
    simp only [World.size_drew] at h2
    exact ⟨⟨by omega, by omega, by omega⟩, ⟨by omega, by omega, by omega⟩⟩
end Go.Proofs.YtffalfacakdhkaaGreatDoor
namespace Go.Proofs.YtffalfacakdhkaaGreatDoor
open Go.RowKit Go.Maps Go.Shelf
set_option linter.unusedVariables false
set_option linter.unusedSimpArgs false
theorem DkA.tch {w0 W W' : World} {db : Nat} {v p : Value} {out : List UInt8} {dp xp : Value} {n : Int} {T : List Nat} (h : DkA w0 W db v p out dp xp n) (hT : Tch T W W') (h1 : db ∉ T) (h2 : ∀ g, v.ownBlock = some g → g ∉ T) (h3 : ∀ k ∈ T, w0.heap.size ≤ k) : DkA w0 W' db v p out dp xp n := by
 refine ⟨h.ge, h.low.trans (hT.toBelow h.low.size h3), h.blk.tch hT h1, ?_, h.self, h.nn⟩
 refine ⟨h.own.1, h.own.2.imp id ?_⟩
 rintro ⟨g, cap, cur, e1, a1, a2, r⟩
 have h4 : Blk W g 5 cur := a2
 exact ⟨g, cap, cur, e1, a1, h4.tch hT (h2 g (by rw [e1]; rfl)), r⟩
/-- Beside the builder: a device of m sectors, nothing written. -/
def EDev (w0 : World) (m d sb ob : Nat) (v : Value) (W : World) : Prop := (w0.heap.size ≤ d ∧ w0.heap.size ≤ sb ∧ w0.heap.size ≤ ob) ∧ DkIs W d sb ob m [] []
theorem EDev.ok (w0 : World) (m d sb ob : Nat) : EnvOk (EDev w0 m d sb ob) := (EnvOk.dev d sb ob m).and
/-- .. an image. -/
def EImg (w0 : World) (i : ImI) (N q : Nat) (Y : Hd) (M : SnM) (v : Value) (W : World) : Prop := (∀ k ∈ imT i, w0.heap.size ≤ k) ∧ @ImIs (mkV v) W i N q Y M
theorem EImg.ok (w0 : World) (i : ImI) (N q : Nat) (Y : Hd) (M : SnM) : EnvOk (EImg w0 i N q Y M) := (EnvOk.img i N q Y M).and
theorem built_tale0 : Tryz.prog.built 70 [] = some (taleV 0 0 (.slice none 0 0) 0 0 0 0 0 0 0 0 0 (.slice none 0 0)) := by kernel_rfl
theorem built_taleE (e : Int) : Tryz.prog.built 70 [(0, .int .i64 e)] = some (taleV e 0 (.slice none 0 0) 0 0 0 0 0 0 0 0 0 (.slice none 0 0)) := by kernel_rfl
theorem info_pdk : (Tryz.prog.info? 34).map (·.size) = some 1 := by kernel_rfl
theorem info_pim : (Tryz.prog.info? 35).map (·.size) = some 1 := by kernel_rfl
def okL : List UInt8 := [111, 107, 10]
theorem i64b_small (z : Int) (h : -1000000 ≤ z ∧ z ≤ 1000000) : i64b z := by unfold i64b; omega
section
variable {w0 W : World} {db : Nat} {v p : Value} {out : List UInt8} {dp xp : Value} {n : Int}
/-- tell of an end alone. -/
theorem dsk_tell0 {E : Value → World → Prop} (hE : EnvOk E) (ht : LnT w0) (h : DkA w0 W db v p out dp xp n) (he : E v W) (hl : out.length ≤ 90000000) (e : Int) (he2 : -1000 ≤ e ∧ e ≤ 1000) (T : List UInt8) (hT : tellL e 0 [0, 0, 0, 0, 0, 0, 0, 0, 0] [] [] = T) (hTl : T.length ≤ 1000) :
  Calls Tryz.prog 26 #[.pointer (some ⟨db, 0, none⟩), .agg (taleV e 0 (.slice none 0 0) 0 0 0 0 0 0 0 0 0 (.slice none 0 0))] W fun r w' => r = .returned (.int .i64 0) ∧ WrtB E w0 db (out ++ (T ++ [10])) dp xp n W w' :=
 dsk_tell hE ht h he hl e 0 0 0 0 0 0 0 0 0 0 none 0 0 [] ⟨rfl, fun h => absurd h (by omega)⟩ (by simp) (i64b_small _ (by omega)) (i64b_small _ (by omega)) (by intro z hz; simp at hz; subst hz; exact i64b_small _ (by omega)) (by omega) T hT hTl
set_option maxRecDepth 100000 in
set_option maxHeartbeats 1000000 in
theorem dsk_disk_ok (ht : LnT w0) (h : DkA w0 W db v p out dp xp n) (hl : out.length ≤ 80000000) (k : Nat) (hk : 1 ≤ k ∧ k ≤ 4096) {A : Option Addr} {B c : Nat} (hO : W.ownsRow B 3 1 (.slice A 1 c) 1 [.int .i64 (k : Int)]) :
  Calls Tryz.prog 20 #[.pointer (some ⟨db, 0, none⟩), .slice A 1 c] W fun e w' => e = .returned (.int .i64 0) ∧ ∃ d sb ob, WrtB (EDev w0 k d sb ob) w0 db (out ++ okL) (.pointer (some ⟨d, 0, none⟩)) (.pointer none) n W w' := by
 have H := yH h
 obtain ⟨g, cap, hv, _⟩ := hO.form (by omega)
 injection hv with hA _ hc
 subst hA
 subst hc
 have hcell : W.cell? ⟨g, 0, none⟩ = some (.int .i64 (k : Int)) := own_int_cell (zs := [(k : Int)]) hO (i := 0) (by simp)
 have HT := yH ht
 have HL := yH hl
 have HN := yH (dk_new k (by omega) W)
 have hk1 : 1 ≤ (k : Int) ∧ (k : Int) ≤ 4096 := by omega
 clear h ht hl hO hk
 go_enter Tryz.func20, Tryz.ntmps20
 go_wp2_with (first
  | (go_at_call 34; refine HN.out.mono ?_; rintro e w1 ⟨d, sb, ob, rfl, hD, hl, g1, g2, g3⟩; have D1 := yH hD; have L1 := yH hl; have G1 := yH (And.intro g1 (And.intro g2 g3)); have A1 := yH (H.out.below hl); clear hD hl g1 g2 g3)
  | (refine wpl_setD rfl 34 (.tmp 27) (.tmp 25) (by rfl) db 2 (.pointer (some ⟨d, 0, none⟩)) (by rfl) (by rfl) _ _ A1.out.blk info_pdk (by show 2 < 5; omega) (by rfl) (by rfl) ?_; intro w2 hb hg hz; have A2 := yH (A1.out.setBlk hb (Tch.one hg) A1.out.self); have D2 := yH (Alien.dk A1.out.alien D1.out (Tch.one hg)); have K2 := yH ((KpL.below L1.out).trans (KpL.one A1.out.blk (by decide) (Tch.one hg))); clear hb hg hz; simp only [Act.put, yA, yB, yC])
  | (refine wpl_setD rfl 35 (.tmp 29) (.const (.pointer none)) (by rfl) db 3 (.pointer none) (by rfl) (by rfl) _ _ A2.out.blk info_pim (by show 3 < 5; omega) (by rfl) (by rfl) ?_; intro w3 hb hg hz; have A3 := yH (A2.out.setBlk hb (Tch.one hg) A2.out.self); have D3 := yH (Alien.dk A2.out.alien D2.out (Tch.one hg)); have K3 := yH (K2.out.trans (KpL.one A2.out.blk (by decide) (Tch.one hg))); clear hb hg hz; simp only [Act.put, yA, yB, yC])
  | (refine wpl_mk rfl 70 #[] (by rfl) [] (by rfl) _ built_tale0 ?_; simp only [Act.put, yA, yB, yC])
  | (go_at_call 26; refine (dsk_tell0 (EDev.ok w0 k d sb ob) HT.out A3.out ⟨by have h1 := G1.out; have h2 := H.out.low.size; omega, D3.out⟩ (by have := HL.out; omega) 0 (by omega) _ t_ok (by simp)).mono ?_; rintro e w4 ⟨rfl, hw⟩; have W4 := yH hw; clear hw))
 go_ret
 obtain ⟨v', p', h1, h2, h3⟩ := W4.out
 exact ⟨rfl, d, sb, ob, v', p', h1, h2, K3.out.trans h3⟩
set_option maxRecDepth 100000 in
theorem dsk_disk_cnt (A : Option Addr) (m c : Nat) (hm : m ≠ 1) (hm2 : m ≤ 100) : Calls Tryz.prog 20 #[.pointer (some ⟨db, 0, none⟩), .slice A m c] W fun e w' => e = .returned (.int .i64 310) ∧ w' = W := by
 have e1 : ¬ (m : Int) = 1 := by omega
 go_enter Tryz.func20, Tryz.ntmps20
 go_wp2
 go_ret
 exact ⟨rfl, rfl⟩
set_option maxRecDepth 100000 in
theorem dsk_disk_range (k : Int) (hk : k < 1 ∨ 4096 < k) {A : Option Addr} {B c : Nat} (hO : W.ownsRow B 3 1 (.slice A 1 c) 1 [.int .i64 k]) : Calls Tryz.prog 20 #[.pointer (some ⟨db, 0, none⟩), .slice A 1 c] W fun e w' => e = .returned (.int .i64 310) ∧ w' = W := by
 obtain ⟨g, cap, hv, _⟩ := hO.form (by omega)
 injection hv with hA _ hc
 subst hA
 subst hc
 have hcell : W.cell? ⟨g, 0, none⟩ = some (.int .i64 k) := own_int_cell (zs := [k]) hO (i := 0) (by simp)
 clear hO
 rcases hk with hk | hk
 ·go_enter Tryz.func20, Tryz.ntmps20
  go_wp2
  go_ret
  exact ⟨rfl, rfl⟩
 ·have hk2 : ¬ k < 1 := by omega
  go_enter Tryz.func20, Tryz.ntmps20
  go_wp2
  go_ret
  exact ⟨rfl, rfl⟩
set_option maxRecDepth 100000 in
theorem dsk_open_cnt (A : Option Addr) (m c : Nat) (hm : 0 < m) (hm2 : m ≤ 100) : Calls Tryz.prog 22 #[.pointer (some ⟨db, 0, none⟩), .slice A m c] W fun e w' => e = .returned (.int .i64 310) ∧ w' = W := by
 have e1 : (0 : Int) < (m : Int) := by omega
 go_enter Tryz.func22, Tryz.ntmps22
 go_wp2
 go_ret
 exact ⟨rfl, rfl⟩
/-- do where there is no image. -/
theorem im_do_nil (f : Value) (W : World) : Calls Tryz.prog 88 #[.pointer none, f] W fun e w' => e = .returned (.int .i64 1) ∧ w' = W := by
 go_enter Tryz.func88, Tryz.ntmps88
 go_wp2
 go_ret
 exact ⟨rfl, rfl⟩
theorem im_check_nil (W : World) : Calls Tryz.prog 37 #[.pointer none] W fun e w' => e = .returned (.int .i64 1) ∧ Below W.heap.size W w' := by
 go_enter Tryz.func37, Tryz.ntmps37
 go_wp2_with (first
  | (refine wpl_boxD rfl 35 (.tmp 0) rfl (.pointer none) rfl rfl ?_; intro w1 hk hg hz; have L1 := yH (bl_n (Below.refl _ W) hg); have c1 : w1.cell? ⟨W.heap.size, 0, none⟩ = some (.pointer none) := hk.cell rfl; clear hk hg hz; simp only [Act.put, yA, yB, yC])
  | (go_at_call 88; refine (im_do_nil _ w1).mono ?_; rintro e w2 ⟨rfl, rfl⟩))
 go_ret
 exact ⟨rfl, L1.out⟩
theorem im_flush_nil (W : World) : Calls Tryz.prog 48 #[.pointer none] W fun e w' => e = .returned (.int .i64 1) ∧ Below W.heap.size W w' := by
 go_enter Tryz.func48, Tryz.ntmps48
 go_wp2_with (first
  | (refine wpl_boxD rfl 35 (.tmp 0) rfl (.pointer none) rfl rfl ?_; intro w1 hk hg hz; have L1 := yH (bl_n (Below.refl _ W) hg); have c1 : w1.cell? ⟨W.heap.size, 0, none⟩ = some (.pointer none) := hk.cell rfl; clear hk hg hz; simp only [Act.put, yA, yB, yC])
  | (go_at_call 88; refine (im_do_nil _ w1).mono ?_; rintro e w2 ⟨rfl, rfl⟩))
 go_ret
 exact ⟨rfl, L1.out⟩
set_option maxRecDepth 100000 in
set_option maxHeartbeats 1000000 in
theorem dsk_check_nil {E : Value → World → Prop} (hE : EnvOk E) (ht : LnT w0) (h : DkA w0 W db v p out dp (.pointer none) n) (he : E v W) (hl : out.length ≤ 80000000) (A : Option Addr) (c : Nat) :
  Calls Tryz.prog 23 #[.pointer (some ⟨db, 0, none⟩), .slice A 0 c] W fun e w' => e = .returned (.int .i64 0) ∧ WrtB E w0 db (out ++ ([101, 114, 114, 111, 114, 32, 49] ++ [10])) dp (.pointer none) n W w' := by
 have H := yH h
 have c3 : W.cell? ⟨db, 3, none⟩ = some (.pointer none) := h.blk.cell rfl
 have HT := yH (fun w1 (hb : Below W.heap.size W w1) => dsk_tell0 hE ht (h.below hb) (hE.below he hb) (by omega) 1 (by omega) _ t_e1 (by simp))
 clear h he hl hE ht
 go_enter Tryz.func23, Tryz.ntmps23
 go_wp2_with (first
  | (go_at_call 37; refine (im_check_nil W).mono ?_; rintro e w1 ⟨rfl, hl⟩; have L1 := yH hl; clear hl)
  | (refine wpl_mk rfl 70 #[(0, .tmp 13)] (by rfl) [(0, .int .i64 1)] (by rfl) _ (built_taleE 1) ?_; simp only [Act.put, yA, yB, yC])
  | (go_at_call 26; refine (HT.out _ L1.out).mono ?_; rintro e w4 ⟨rfl, hw⟩; have W4 := yH hw; clear hw))
 go_ret
 obtain ⟨v', p', h1, h2, h3⟩ := W4.out
 exact ⟨rfl, v', p', h1, h2, (KpL.below L1.out).trans h3⟩
end
end Go.Proofs.YtffalfacakdhkaaGreatDoor
namespace Go.Proofs.YtffalfacakdhkaaGreatDoor
open Go.RowKit Go.Maps Go.Shelf
set_option linter.unusedVariables false
set_option linter.unusedSimpArgs false
theorem nin5 {b c kb sb ob r : Nat} (h : b ∉ [c, kb, sb, ob]) (hr : b ≠ r) : b ∉ [c, kb, sb, ob, r] := by
 simp only [List.mem_cons, List.not_mem_nil, or_false, not_or] at h ⊢
 exact ⟨h.1, h.2.1, h.2.2.1, h.2.2.2, hr⟩
/-- A state stays where a cache, its device and a block of another type turn. -/
theorem StIs.ccr [gm : Inhabited GMk] {W W' : World} {c kb d sb ob n N si xi bx mi bs k r : Nat} {L : Int → Sec} {E : ExM} {f : MpF} {M : SnM} {t : TypeId} {cs : Array Value} (h : StIs W si xi bx mi bs k E f M) (hc : CcI W c kb d sb ob n L N) (hf : (bx ≠ kb ∧ bx ≠ sb ∧ bx ≠ ob) ∧ (bs ≠ kb ∧ bs ≠ sb ∧ bs ≠ ob)) (hr : Blk W r t cs) (h1 : 214 ≠ t) (h2 : 302 ≠ t) (h3 : 284 ≠ t) (h4 : 282 ≠ t) (hT : Tch [c, kb, sb, ob, r] W W') : StIs W' si xi bx mi bs k E f M := by
 obtain ⟨K, S, O, k1, k2⟩ := hc
 obtain ⟨now, hi, mi2, hk⟩ := k1.blk
 have hm : ∀ {α β : Type} [DecidableEq α] {k : TypeId} {kv : α → Value} {kl : α → Lit} {ve : β → Value} {M : List (α × β)} {b : Nat}, MapIs Tryz.prog k kv kl ve W b M → b ≠ kb → b ≠ sb → b ≠ ob → b ∉ [c, kb, sb, ob, r] := fun hx e1 e2 e3 => by
  have := blk_ne_mapD hx hk
  have h5 := blk_ne_mapD hx hr
  simp only [List.mem_cons, List.not_mem_nil, or_false, not_or]
  exact ⟨this.symm, e1, e2, e3, h5.symm⟩
 have hb : ∀ {b t2 cs}, Blk W b t2 cs → t2 ≠ 206 → t2 ≠ t → b ∉ [c, kb, sb, ob, r] := fun {b t2 cs} hr2 ht ht2 => nin5 (CcI.noBlk ⟨K, S, O, k1, k2⟩ hr2 ht) (blk_ne_tyD hr2 hr ht2)
 exact h.tch hT (hb h.blk (by decide) h1) (hb h.idx.blk (by decide) h2) (hm h.idx.map hf.1.1 hf.1.2.1 hf.1.2.2) (hb h.maps.blk (by decide) h3) (hm h.maps.map hf.2.1 hf.2.2.1 hf.2.2.2) (fun p hp => hb (h.maps.each p hp) (by decide) h4)
theorem ImIs.blk_st [gm : Inhabited GMk] {W W' : World} {i : ImI} {N q b : Nat} {Y : Hd} {M : SnM} {t : TypeId} {cs : Array Value} (h : ImIs W i N q Y M) (hb : Blk W b t cs) (ht : t ≠ 284) (hT : Tch [i.bx, i.mi, i.bs] W W') : Blk W' b t cs :=
 hb.tch hT (by
  simp only [List.mem_cons, List.not_mem_nil, or_false, not_or]
  exact ⟨blk_ne_mapD h.st.idx.map hb, blk_ne_tyD hb h.st.maps.blk ht, blk_ne_mapD h.st.maps.map hb⟩)
/-- A record has been appended. -/
theorem ImIs.appended [gm : Inhabited GMk] {W W' : World} {i : ImI} {N q : Nat} {Y : Hd} {M : SnM} {e : Ending} (h : ImIs W i N q Y M) (hA : ApPost W i.jb i.c i.kb i.d i.sb i.ob q N e W') : ImIs W' i (N + 1) (q + 1) Y M ∧ Tch (imT i) W W' := by
 obtain ⟨_, hC, hJ, hT⟩ := hA
 obtain ⟨L, hc⟩ := h.cc
 refine ⟨⟨h.blk.tch hT (nin5 (hc.noBlk h.blk (by decide)) (blk_ne_tyD h.blk h.jr (by decide))), hC, h.st.ccr hc h.far h.jr (by decide) (by decide) (by decide) (by decide) hT, hJ, h.ids, h.allz, h.far, h.geo⟩, hT.mono (fun k hk => ?_)⟩
 unfold imT
 simp at hk ⊢
 omega
/-- A state has done something. -/
theorem ImIs.done [gm : Inhabited GMk] {W W' : World} {i : ImI} {N q : Nat} {Y : Hd} {M M' : SnM} (h : ImIs W i N q Y M) (hS : StIs W' i.si i.xi i.bx i.mi i.bs 8 [] zF M') (hM : IdsOk M' ∧ allZ M') (hT : Tch [i.bx, i.mi, i.bs] W W') : ImIs W' i N q Y M' ∧ Tch (imT i) W W' := by
 refine ⟨⟨h.blk_st h.blk (by decide) hT, h.cc.imp (fun L hc => hc.st h.st h.far hT), hS, h.blk_st h.jr (by decide) hT, hM.1, hM.2, h.far, h.geo⟩, hT.mono (fun k hk => ?_)⟩
 unfold imT
 simp at hk ⊢
 omega
theorem opB_bytes (k s : Nat) : ∀ z ∈ opB k s, 0 ≤ z ∧ z < 256 := by
 intro z hz
 unfold opB at hz
 rcases List.mem_append.1 hz with h | h
 ·exact beL_bytes _ _ _ h
 ·exact beL_bytes _ _ _ h
section
variable {W : World} {i : ImI} {N q : Nat} {Y : Hd} {M : SnM}
set_option maxRecDepth 100000 in
set_option maxHeartbeats 1000000 in
theorem im_ahead [gm : Inhabited GMk] (h : ImIs W i N q Y M) (hq : q ≤ 6) (k s : Nat) (hk : k = 3 ∨ k = 4) (hs : 1 ≤ s ∧ s ≤ 1073741824) :
  Calls Tryz.prog 109 #[.pointer (some ⟨i.x, 0, none⟩), .agg (opSC (k : Int) (s : Int))] W fun e w' => e = .returned (.int .i64 0) ∧ Below W.heap.size W w' := by
 have H := yH h
 have HP := yH (fun W => op_put k s hk hs W)
 have hq2 : ¬ (8 - (q : Int)) < 1 := by omega
 have HQ := yH hq
 clear h hk hs hq
 go_enter Tryz.func109, Tryz.ntmps109
 go_wp2_with (first
  | (refine wpl_box rfl 138 (.tmp 1) rfl _ rfl ?_; intro w1 hk hg hz; have K1 := yH (show Blk w1 W.heap.size 138 (opSC (k : Int) (s : Int)) from hk); have L1 := yH (bl_n (Below.refl _ W) hg); clear hk hg hz; simp only [Act.put, yA, yB, yC])
  | (refine wpl_load_blk rfl 138 (.tmp 3) (by rfl) W.heap.size (by rfl) 138 _ K1.out _ Tryz.underlying138 rfl _ (opS_info _ _) rfl ?_; simp only [Act.put, yA, yB, yC])
  | (go_at_call 185; refine (jr_room I2.out.jr (by have := HQ.out; omega)).mono ?_; rintro e w3 ⟨rfl, rfl⟩)
  | (go_at_call 184; refine (HP.out _).mono ?_; rintro e w2 ⟨A, c, rfl, hs, hl⟩; have L2 := yH (below_chain L1.out hl); have I2 := yH (H.out.below L2.out); have c12 := I2.out.c12; clear hs hl))
 go_ret
 exact ⟨rfl, L2.out.drew⟩
set_option maxRecDepth 100000 in
set_option maxHeartbeats 1000000 in
theorem im_record [gm : Inhabited GMk] (h : ImIs W i N q Y M) (hq : q ≤ 6) (hN : N ≤ 1000) (k s : Nat) (hk : k = 3 ∨ k = 4) (hs : 1 ≤ s ∧ s ≤ 1073741824) (P : SnM → Prop) (hP : ∀ M', P M' → IdsOk M' ∧ allZ M')
  (hdo : ∀ W', StIs W' i.si i.xi i.bx i.mi i.bs 8 [] zF M → Calls Tryz.prog 167 #[.pointer (some ⟨i.si, 0, none⟩), .agg (opSC (k : Int) (s : Int))] W' fun e w' => ∃ M', e = .returned (.int .i64 0) ∧ P M' ∧ StIs w' i.si i.xi i.bx i.mi i.bs 8 [] zF M' ∧ Tch [i.bx, i.mi, i.bs] W' w') :
  Calls Tryz.prog 110 #[.pointer (some ⟨i.x, 0, none⟩), .agg (opSC (k : Int) (s : Int))] W fun e w' => ∃ M', e = .returned (.int .i64 0) ∧ P M' ∧ ImIs w' i (N + 1) (q + 1) Y M' ∧ Tch (imT i) W w' := by
 have H := yH h
 have HP := yH (fun W => op_put k s hk hs W)
 have HD := yH hdo
 have HPP := yH hP
 have HQ := yH (And.intro hq hN)
 clear h hk hs hq hN hdo hP
 go_enter Tryz.func110, Tryz.ntmps110
 go_upto_region 7 with (first
  | (refine wpl_box rfl 138 (.tmp 1) rfl _ rfl ?_; intro w1 hk hg hz; have K1 := yH (show Blk w1 W.heap.size 138 (opSC (k : Int) (s : Int)) from hk); have L1 := yH (bl_n (Below.refl _ W) hg); clear hk hg hz; simp only [Act.put, yA, yB, yC])
  | (refine wpl_load_blk rfl 138 (.tmp 3) (by rfl) W.heap.size (by rfl) 138 _ K1.out _ Tryz.underlying138 rfl _ (opS_info _ _) rfl ?_; simp only [Act.put, yA, yB, yC])
  | (go_at_call 186; obtain ⟨L0, hcc⟩ := I2.out.cc; refine (jr_append I2.out.jr hcc HQ.out.1 (by have := HQ.out.2; omega) S2.out (opB_bytes k s)).mono ?_; intro e w3 hA; have he := hA.1; subst he; have I3 := yH (I2.out.appended hA).1; have T3 := yH (I2.out.appended hA).2; have K3 := yH (K2.out.tch hA.2.2.2 (nin5 (hcc.noBlk K2.out (by decide)) (blk_ne_tyD K2.out I2.out.jr (by decide)))); clear hA hcc)
  | (go_at_call 184; refine (HP.out _).mono ?_; rintro e w2 ⟨A, c, rfl, hs, hl⟩; have L2 := yH (below_chain L1.out hl); have I2 := yH (H.out.below L2.out); have S2 := yH hs; have K2 := yH (K1.out.below hl K1.out.lt); have c12 := I2.out.c12; clear hs hl))
 have TT3 := yH (show Tch (imT i) W w3 from (Tch.below L2.out).trans T3.out)
 clear K1 L1 L2 I2 S2 K2 T3 c12 H HP
 refine wp_region_qs (fun _ w' => w'.rangeAt W.heap.size 0 (opSC (k : Int) (s : Int)).toList ∧ w'.cell? ⟨i.x, 11, none⟩ = some (.pointer (some ⟨i.si, 0, none⟩))) [(0, some 1), (1, some 1), (2, some 1), (3, some 0), (4, some 0), (5, none), (6, some 1)] (by kernel_rfl) (by kernel_rfl) (by kernel_rfl) (by kernel_rfl) (by kernel_rfl) (fun _ _ _ _ _ h => h) ⟨K3.out.drew.range, I3.out.drew.c11⟩ ?_
 simp only [yD, yE, yF, yG]
 (repeat (first | ((first | (refine qs_row (by rfl) 138 (.tmp 3) (by with_reducible rfl) W.heap.size 0 (by rfl) (opSC (k : Int) (s : Int)).toList _ (fun j w' _ h2 h => h.1) Tryz.underlying138 rfl (by rw [opS_info (k : Int) (s : Int)]; rfl) ?_)); simp only [Act.put, yA, yB, yC]) | (refine qs_mid (v := ?_) (by rfl) ?_ ?_; rotate_left 1; (· (intro j w' hj1 hj2 hS; go_simp; (try (simp only [↓IntWalk.iteOmega]; go_simp)); (try simp (disch := omega) only [IntWalk.i64_in]); try with_reducible rfl)); simp only [Act.put, yA, yB, yC]) | (refine qs_skip (by rfl) ?_; simp only [Act.put, yA, yB, yC])))
 refine qs_act ?_
 go_wp2_with (go_at_call 167; refine (HD.out _ I3.out.drew.st).mono ?_; rintro e w4 ⟨M', rfl, hp, hS, hT⟩; have P4 := yH hp; have I4 := yH (I3.out.drew.done hS (HPP.out _ hp) hT).1; have T4 := yH (I3.out.drew.done hS (HPP.out _ hp) hT).2; have K4 := yH (I3.out.drew.blk_st K3.out.drew (by decide) hT); clear hp hS hT)
 refine ⟨⟨K4.out.range, I4.out.c11⟩, ?_⟩
 (repeat (first | (refine qs_mid (v := ?_) (by rfl) ?_ ?_; rotate_left 1; (· (intro j w' hj1 hj2 hS; go_simp; (try (simp only [↓IntWalk.iteOmega]; go_simp)); (try simp (disch := omega) only [IntWalk.i64_in]); try with_reducible rfl)); simp only [Act.put, yA, yB, yC]) | (refine qs_skip (by rfl) ?_; simp only [Act.put, yA, yB, yC])))
 refine qs_nil ?_
 go_wp2_with fail
 go_ret
 exact ⟨M', rfl, P4.out, I4.out, (TT3.out.trans (Tch.below (Below.refl _ w3).drew)).trans T4.out⟩
set_option maxRecDepth 100000 in
set_option maxHeartbeats 1000000 in
theorem im_log [gm : Inhabited GMk] (h : ImIs W i N q Y M) (hq : q ≤ 6) (hN : N ≤ 1000) (k s : Nat) (hk : k = 3 ∨ k = 4) (hs : 1 ≤ s ∧ s ≤ 1073741824) (P : SnM → Prop) (hP : ∀ M', P M' → IdsOk M' ∧ allZ M')
  (hdo : ∀ W', StIs W' i.si i.xi i.bx i.mi i.bs 8 [] zF M → Calls Tryz.prog 167 #[.pointer (some ⟨i.si, 0, none⟩), .agg (opSC (k : Int) (s : Int))] W' fun e w' => ∃ M', e = .returned (.int .i64 0) ∧ P M' ∧ StIs w' i.si i.xi i.bx i.mi i.bs 8 [] zF M' ∧ Tch [i.bx, i.mi, i.bs] W' w') :
  Calls Tryz.prog 104 #[.pointer (some ⟨i.x, 0, none⟩), .agg (opSC (k : Int) (s : Int))] W fun e w' => ∃ M', e = .returned (.int .i64 0) ∧ P M' ∧ ImIs w' i (N + 1) (q + 1) Y M' ∧ Tch (imT i) W w' := by
 have HA := yH (fun W (h : ImIs W i N q Y M) => im_ahead h hq k s hk hs)
 have HR := yH (fun W (h : ImIs W i N q Y M) => im_record h hq hN k s hk hs P hP hdo)
 have H := yH h
 clear h hk hs hq hN hdo hP
 go_enter Tryz.func104, Tryz.ntmps104
 go_wp2_with (first
  | (refine wpl_box rfl 138 (.tmp 1) rfl _ rfl ?_; intro w1 hk hg hz; have K1 := yH (show Blk w1 W.heap.size 138 (opSC (k : Int) (s : Int)) from hk); have L1 := yH (bl_n (Below.refl _ W) hg); clear hk hg hz; simp only [Act.put, yA, yB, yC])
  | (refine wpl_load_blk rfl 138 (.tmp 3) (by rfl) W.heap.size (by rfl) 138 _ K2.out _ Tryz.underlying138 rfl _ (opS_info _ _) rfl ?_; simp only [Act.put, yA, yB, yC])
  | (refine wpl_load_blk rfl 138 (.tmp 3) (by rfl) W.heap.size (by rfl) 138 _ K1.out _ Tryz.underlying138 rfl _ (opS_info _ _) rfl ?_; simp only [Act.put, yA, yB, yC])
  | (go_at_call 109; refine (HA.out _ (H.out.below L1.out)).mono ?_; rintro e w2 ⟨rfl, hl⟩; have L2 := yH (below_chain L1.out hl); have I2 := yH (H.out.below L2.out); have K2 := yH (K1.out.below hl K1.out.lt); clear hl)
  | (go_at_call 110; refine (HR.out _ I2.out).mono ?_; rintro e w3 ⟨M', rfl, hp, hI, hT⟩; have P3 := yH hp; have I3 := yH hI; have T3 := yH hT; clear hp hI hT))
 go_ret
 exact ⟨M', rfl, P3.out, I3.out, (Tch.below L2.out).trans T3.out⟩
end
end Go.Proofs.YtffalfacakdhkaaGreatDoor
