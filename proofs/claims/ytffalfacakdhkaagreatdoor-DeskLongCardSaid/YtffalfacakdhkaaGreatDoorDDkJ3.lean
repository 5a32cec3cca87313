/-
  what this claim needs of: DkJ3, DkI2, DkI3 (written by cut.py).
-/
import Derived.Test.YtffalfacakdhkaaGreatDoorDDkA3
import Derived.Test.YtffalfacakdhkaaGreatDoorDDkT
import Derived.Test.YtffalfacakdhkaaGreatDoorDDkLaid
import Derived.Test.YtffalfacakdhkaaGreatDoorDQnB4
import Derived.Test.YtffalfacakdhkaaGreatDoorDQnJ
import Derived.Test.YtffalfacakdhkaaGreatDoorDQnS4
namespace Go.Proofs.YtffalfacakdhkaaGreatDoor
open Go.RowKit Go.Maps Go.Shelf
set_option linter.unusedVariables false
set_option linter.unusedSimpArgs false
attribute [local go_sem] Oper.semAt_some
theorem jr_recf (b cap jb : Nat) (W : World) : Calls Tryz.prog 166 #[.pointer (some ⟨jb, 0, none⟩), .slice (some ⟨b, 0, none⟩) 4096 cap] W fun e w' => ∃ jx bx, e = .returned (.func (.func 240) #[] #[.pointer (some ⟨bx, 0, none⟩), .pointer (some ⟨jx, 0, none⟩)]) ∧ Boxed w' bx 25 (.slice (some ⟨b, 0, none⟩) 4096 cap) ∧ Boxed w' jx 129 (.pointer (some ⟨jb, 0, none⟩)) ∧ Below W.heap.size W w' := by
 go_enter Tryz.func166, Tryz.ntmps166
 go_wp2_with (first
  | (refine wpl_boxD rfl 129 (.tmp 0) rfl (.pointer (some ⟨jb, 0, none⟩)) rfl rfl ?_; intro w1 hk hg hz; have B1 := yH hk; have L1 := yH (bl_n (Below.refl _ W) hg); clear hk hg hz; simp only [Act.put, yA, yB, yC])
  | (refine wpl_boxD rfl 25 (.tmp 1) rfl (.slice (some ⟨b, 0, none⟩) 4096 cap) rfl rfl ?_; intro w2 hk hg hz; have B2 := yH hk; have L2 := yH (bl_n (Below.refl _ w1) hg); clear hk hg hz; simp only [Act.put, yA, yB, yC]))
 go_ret
 exact ⟨W.heap.size, w1.heap.size, rfl, B2.out, B1.out.below L2.out B1.out.lt, below_chain L1.out L2.out⟩
theorem built_jr (c : Nat) : Tryz.prog.built 240 [(0, .pointer (some ⟨c, 0, none⟩)), (1, .int .i64 10), (2, .int .i64 8), (3, .int .i64 1)] = some (jrC c 10 8 1 0 0).toArray := by kernel_rfl
theorem jr_half (w : World) : Calls Tryz.prog 164 #[.agg (geC geS).toArray, .int .i64 1] w fun e w' => e = .returned (.int .i64 10) ∧ Below w.heap.size w w' := half_any geS_geB geS_right 1 (by omega)
theorem info_pjr : (Tryz.prog.info? 129).map (·.size) = some 1 := by kernel_rfl
def JoR (W : World) (c : Nat) (p : Nat × Nat) (w' : World) : Prop := Blk w' p.1 240 (jrC c 10 8 1 0 0).toArray ∧ Boxed w' p.2 129 (.pointer (some ⟨p.1, 0, none⟩)) ∧ Below W.heap.size W w' ∧ W.heap.size ≤ p.1 ∧ W.heap.size ≤ p.2
def JoPost [gm : Inhabited GMk] (W : World) (c kb d sb ob : Nat) (L : Int → Sec) (N : Nat) (e : Ending) (w' : World) : Prop := ∃ jb v, e = .returned (.tuple #[.pointer (some ⟨jb, 0, none⟩), v, .int .i64 0]) ∧ CcI w' c kb d sb ob 400 L N ∧ Blk w' jb 240 (jrC c 10 8 1 0 0).toArray ∧ W.heap.size ≤ jb ∧ Tch [c, kb, sb, ob] W w'
set_option maxRecDepth 100000 in
set_option maxHeartbeats 1000000 in
theorem jr_open [gm : Inhabited GMk] {w : World} {c kb d sb ob N : Nat} {L : Int → Sec} (h : CcI w c kb d sb ob 400 L N) (hN : N ≤ 800000) (hz : secsL (secsAt L 10 8) = bV zs4) :
  Calls Tryz.prog 84 #[.pointer (some ⟨c, 0, none⟩), .agg (geC geS).toArray, .int .i64 1] w (JoPost w c kb d sb ob L (N + 8)) := by
 have H := yH h
 have HN := yH hN
 have HZ := yH hz
 clear h hN hz
 refine (callsIn_wide (n := 4)).1 ?_
 refine callsIn_of_wp_marks Tryz.func84 rfl trivial ?_ rfl
 simp only [Tryz.ntmps84, List.size_toArray, List.length_cons, List.length_nil, Nat.reduceAdd, Nat.reduceSub, Array.replicate_succ, Array.replicate_zero, List.push_toArray, List.append_toArray, List.nil_append, List.cons_append]
 refine wpIn_wide.2 ?_
 go_upto_region 4 with (first
  | (go_at_call 163; refine (jr_may H1.out geS_geB geS_right (by decide) 1 (by omega)).mono ?_; rintro e w2 ⟨rfl, hb⟩; have L2 := yH (below_chain L1.out hb); have K2 := yH (K.out.below hb K.out.lt); have RG2 := yH (show w2.rangeAt w.heap.size 0 (geC geS) by have := K2.out.range; rwa [List.toList_toArray] at this); clear hb)
  | (refine wpList_load_mid rfl 66 (.tmp 4) (by rfl) w.heap.size 0 (by rfl) (geC geS) _ RG.out Tryz.underlying66 rfl (geC_info geS) ?_; simp only [Act.put, yA, yB, yC])
  | (refine wpl_box rfl 66 (.tmp 1) rfl _ rfl ?_; intro w1 hk hg hz; have K := yH hk; have L1 := yH (bl_n (Below.refl _ _) hg); have H1 := yH (H.out.below L1.out); have RG := yH (show w1.rangeAt w.heap.size 0 (geC geS) by have := K.out.range; rwa [List.toList_toArray] at this); clear hk hg hz))
 have H2 := yH (H.out.below L2.out)
 clear K L1 H1 RG RG2
 have LD := yH (Below.refl w2.heap.size w2).drew
 have KD := yH (K2.out.below LD.out K2.out.lt)
 have KK := yH (show ∀ W', Below w2.heap.size w2 W' → W'.rangeAt w.heap.size 0 (geC geS) ∧ W'.cell? ⟨w.heap.size, 4, none⟩ = some (.int .i64 8) from fun W' hb => by
  have := K2.out.below hb K2.out.lt
  exact ⟨by have h := this.range; rwa [List.toList_toArray] at h, this.cell rfl⟩)
 refine wp_region_tr (fun _ w' => w'.rangeAt w.heap.size 0 (geC geS) ∧ w'.cell? ⟨w.heap.size, 4, none⟩ = some (.int .i64 8)) [3, 8, 9, 10]
  (preT [(0, 3), (1, 2), (2, 2), (4, 3), (5, 3), (6, 3)] (.fork 3 9 (preT [(7, 2)] (.fork 8 9 (.act 9 (.act 10 .done)) (.act 8 (.act 10 .done)))) (.act 3 (preT [(7, 2)] (.act 8 (.act 10 .done))))))
  (JoR w2 c)
  (fun a p => (((((((((((a.put (some 23) (.pointer (some ⟨c, 0, none⟩))).put (some 24) (.agg (geC geS).toArray)).put (some 25) (.int .i64 1)).put (some 26) (.int .i64 10)).put (some 27) (.pointer (some ⟨w.heap.size, 4, none⟩))).put (some 28) (.int .i64 8)).put (some 29) (.int .i64 1)).put (some 30) (.agg (jrC c 10 8 1 0 0).toArray)).put (some 31) (.pointer (some ⟨p.1, 0, none⟩))).put (some 10) (.pointer (some ⟨p.2, 0, none⟩)))))
  (by kernel_rfl) rfl (by kernel_rfl) (by kernel_rfl) (by kernel_rfl) (KK.out _ LD.out) ?_ ?_
 ·refine qt_pre _ ?_
  simp only [yD, yE, yF, yG]
  (repeat (first | ((refine qs_row (by rfl) 66 (.tmp 4) (by rfl) w.heap.size 0 (by rfl) (geC geS) _ (fun j w' _ h2 h => h.1) Tryz.underlying66 rfl (geC_info _) ?_); simp only [Act.put, yA, yB, yC]) | (refine qs_mid (v := ?_) (by rfl) ?_ ?_; rotate_left 1; (· (intro j w' hj1 hj2 hS; go_simp; (try (simp only [↓IntWalk.iteOmega]; go_simp)); (try simp (disch := omega) only [IntWalk.i64_in]); try with_reducible rfl)); simp only [Act.put, yA, yB, yC]) | (refine qs_skip (by rfl) ?_; simp only [Act.put, yA, yB, yC])))
  refine qs_nil ?_
  intro _
  refine qt_fork ?_ ?_
  ·simp only [yD, yE, yF, yG]
   go_wp2_with (go_at_call 164; refine (jr_half w2.drew).mono ?_; rintro e w3 ⟨rfl, hb⟩; have M3 := yH hb; have L3 := yH (below_chain LD.out hb); clear hb)
   refine ⟨KK.out _ L3.out, ?_⟩
   refine qt_pre _ ?_
   simp only [yD, yE, yF, yG]
   (repeat (first | ((refine qs_mk (by rfl) 240 _ (by rfl) [(0, .pointer (some ⟨c, 0, none⟩)), (1, .int .i64 10), (2, .int .i64 8), (3, .int .i64 1)] (by rfl) (jrC c 10 8 1 0 0).toArray (built_jr c) ?_); simp only [Act.put, yA, yB, yC]) | (refine qs_mid (v := ?_) (by rfl) ?_ ?_; rotate_left 1; (· (intro j w' hj1 hj2 hS; go_simp; (try (simp only [↓IntWalk.iteOmega]; go_simp)); (try simp (disch := omega) only [IntWalk.i64_in]); try with_reducible rfl)); simp only [Act.put, yA, yB, yC]) | (refine qs_skip (by rfl) ?_; simp only [Act.put, yA, yB, yC])))
   refine qs_nil ?_
   intro _
   refine qt_fork ?_ ?_
   ·simp only [yD, yE, yF, yG]
    go_wp2_with (refine wpl_box rfl 240 (.tmp 30) rfl _ rfl ?_; intro w4 hk hg hz; have J4 := yH (show Blk w4 w3.heap.size 240 (jrC c 10 8 1 0 0).toArray from hk); have M4 := yH (bl_n (Below.refl w3.heap.size w3) hg); have L4 := yH (below_chain L3.out M4.out); clear hk hg hz)
    refine ⟨KK.out _ L4.out, ?_⟩
    refine qt_act ?_
    simp only [yD, yE, yF, yG]
    go_wp2_with (refine wpl_allocD rfl 129 (by rfl) (.pointer none) Tryz.zeroValue129 rfl ?_; intro w5 hk hg hz; have X5 := yH hk; have M5 := yH (bl_n (Below.refl w4.heap.size w4) hg); have L5 := yH (below_chain L4.out M5.out); clear hk hg hz)
    refine ⟨KK.out _ L5.out, ?_⟩
    refine qt_act ?_
    simp only [yD, yE, yF, yG]
    go_wp2_with (refine wpl_setD rfl 129 (.tmp 10) (.tmp 31) (by rfl) w4.heap.size 0 (.pointer (some ⟨w3.heap.size, 0, none⟩)) (by rfl) (by rfl) _ _ X5.out info_pjr (by show 0 < 1; omega) (by rfl) (by rfl) ?_; intro w6 hb hg hz; have X6 := yH hb; have J6 := yH ((J4.out.below M5.out J4.out.lt).grown hg (by have h1 := (J4.out.below M5.out J4.out.lt).lt; have h2 := (X5.out).lt; have h3 := J4.out.lt; simp; omega)); have L6 := yH (bl_g L5.out hg (by exact L4.out.size)); clear hb hg hz)
    refine ⟨KK.out _ L6.out, ?_⟩
    exact qt_done ⟨rfl, w3.heap.size, w4.heap.size, rfl, J6.out, X6.out, L6.out, by exact L3.out.size, by exact L4.out.size⟩
   ·simp only [yD, yE, yF, yG]
    go_wp2_with (refine wpl_allocD rfl 129 (by rfl) (.pointer none) Tryz.zeroValue129 rfl ?_; intro w4 hk hg hz; have X4 := yH hk; have M4 := yH (bl_n (Below.refl w3.heap.size w3) hg); have L4 := yH (below_chain L3.out M4.out); clear hk hg hz)
    refine ⟨KK.out _ L4.out, ?_⟩
    refine qt_act ?_
    simp only [yD, yE, yF, yG]
    go_wp2_with (refine wpl_box rfl 240 (.tmp 30) rfl _ rfl ?_; intro w5 hk hg hz; have J5 := yH (show Blk w5 w4.heap.size 240 (jrC c 10 8 1 0 0).toArray from hk); have M5 := yH (bl_n (Below.refl w4.heap.size w4) hg); have L5 := yH (below_chain L4.out M5.out); clear hk hg hz)
    refine ⟨KK.out _ L5.out, ?_⟩
    refine qt_act ?_
    simp only [yD, yE, yF, yG]
    go_wp2_with (refine wpl_setD rfl 129 (.tmp 10) (.tmp 31) (by rfl) w3.heap.size 0 (.pointer (some ⟨w4.heap.size, 0, none⟩)) (by rfl) (by rfl) _ _ (X4.out.below M5.out X4.out.lt) info_pjr (by show 0 < 1; omega) (by rfl) (by rfl) ?_; intro w6 hb hg hz; have X6 := yH hb; have J6 := yH ((J5.out).grown hg (by have h1 := (J5.out).lt; have h2 := (X4.out.below M5.out X4.out.lt).lt; have h3 := X4.out.lt; simp; omega)); have L6 := yH (bl_g L5.out hg (by exact L3.out.size)); clear hb hg hz)
    refine ⟨KK.out _ L6.out, ?_⟩
    exact qt_done ⟨rfl, w4.heap.size, w3.heap.size, rfl, J6.out, X6.out, L6.out, by exact L4.out.size, by exact L3.out.size⟩
  ·simp only [yD, yE, yF, yG]
   go_wp2_with (refine wpl_allocD rfl 129 (by rfl) (.pointer none) Tryz.zeroValue129 rfl ?_; intro w3 hk hg hz; have X3 := yH hk; have M3 := yH (bl_n (Below.refl w2.drew.heap.size w2.drew) hg); have L3 := yH (below_chain LD.out M3.out); clear hk hg hz)
   refine ⟨KK.out _ L3.out, ?_⟩
   refine qt_act ?_
   simp only [yD, yE, yF, yG]
   go_wp2_with (go_at_call 164; refine (jr_half w3).mono ?_; rintro e w4 ⟨rfl, hb⟩; have M4 := yH hb; have L4 := yH (below_chain L3.out hb); clear hb)
   refine ⟨KK.out _ L4.out, ?_⟩
   refine qt_pre _ ?_
   simp only [yD, yE, yF, yG]
   (repeat (first | ((refine qs_mk (by rfl) 240 _ (by rfl) [(0, .pointer (some ⟨c, 0, none⟩)), (1, .int .i64 10), (2, .int .i64 8), (3, .int .i64 1)] (by rfl) (jrC c 10 8 1 0 0).toArray (built_jr c) ?_); simp only [Act.put, yA, yB, yC]) | (refine qs_mid (v := ?_) (by rfl) ?_ ?_; rotate_left 1; (· (intro j w' hj1 hj2 hS; go_simp; (try (simp only [↓IntWalk.iteOmega]; go_simp)); (try simp (disch := omega) only [IntWalk.i64_in]); try with_reducible rfl)); simp only [Act.put, yA, yB, yC]) | (refine qs_skip (by rfl) ?_; simp only [Act.put, yA, yB, yC])))
   refine qs_nil ?_
   intro _
   refine qt_act ?_
   simp only [yD, yE, yF, yG]
   go_wp2_with (refine wpl_box rfl 240 (.tmp 30) rfl _ rfl ?_; intro w5 hk hg hz; have J5 := yH (show Blk w5 w4.heap.size 240 (jrC c 10 8 1 0 0).toArray from hk); have M5 := yH (bl_n (Below.refl w4.heap.size w4) hg); have L5 := yH (below_chain L4.out M5.out); clear hk hg hz)
   refine ⟨KK.out _ L5.out, ?_⟩
   refine qt_act ?_
   simp only [yD, yE, yF, yG]
   go_wp2_with (refine wpl_setD rfl 129 (.tmp 10) (.tmp 31) (by rfl) w2.drew.heap.size 0 (.pointer (some ⟨w4.heap.size, 0, none⟩)) (by rfl) (by rfl) _ _ ((X3.out.below M4.out X3.out.lt).below M5.out (X3.out.below M4.out X3.out.lt).lt) info_pjr (by show 0 < 1; omega) (by rfl) (by rfl) ?_; intro w6 hb hg hz; have X6 := yH hb; have J6 := yH ((J5.out).grown hg (by have h1 := (J5.out).lt; have h2 := ((X3.out.below M4.out X3.out.lt).below M5.out (X3.out.below M4.out X3.out.lt).lt).lt; have h3 := (X3.out.below M4.out X3.out.lt).lt; simp; simp at h3; omega)); have L6 := yH (bl_g L5.out hg (by exact LD.out.size)); clear hb hg hz)
   refine ⟨KK.out _ L6.out, ?_⟩
   exact qt_done ⟨rfl, w4.heap.size, w2.drew.heap.size, rfl, J6.out, X6.out, L6.out, by exact L4.out.size, by exact LD.out.size⟩
 ·rintro ⟨J, X⟩ w3 hR
  have R := yH hR
  have C3 := yH (H2.out.below hR.2.2.1)
  have T3 := yH (show Tch [c, kb, sb, ob] w w3 from Tch.below (below_chain L2.out hR.2.2.1))
  have HJ := yH (show w.heap.size ≤ J ∧ w.heap.size ≤ X from ⟨Nat.le_trans L2.out.size hR.2.2.2.1, Nat.le_trans L2.out.size hR.2.2.2.2⟩)
  have HJ3 := yH (show Blk w3 J 240 (jrC c 10 8 1 0 0).toArray from hR.1)
  have HX3 := yH (show Blk w3 X 129 #[.pointer (some ⟨J, 0, none⟩)] from hR.2.1)
  have HB := yH (bl_read (C3.out.below (Below.refl _ w3).drew) 10 8 (by omega) (by omega) (by have := HN.out; omega))
  clear hR R H2 K2 KK KD LD H
  simp only [Act.put, yA, yB, yC]
  go_upto_region 5 with fail
  refine wp_region_qn (fun _ w' => w'.cell? ⟨X, 0, none⟩ = some (.pointer (some ⟨J, 0, none⟩)) ∧ w'.cell? ⟨J, 1, none⟩ = some (.int .i64 10) ∧ w'.cell? ⟨J, 2, none⟩ = some (.int .i64 8)) [(0, some 1), (1, some 1), (2, some 1), (3, some 1), (4, some 0), (5, some 1), (6, some 1), (7, some 1), (8, some 0), (9, none), (10, some 1), (11, some 1), (12, some 1), (13, some 1), (14, some 1)] (by kernel_rfl) (by kernel_rfl) (by kernel_rfl) (by kernel_rfl) (by kernel_rfl) (fun _ _ _ _ _ h => h) ⟨HX3.out.drew.cell rfl, HJ3.out.drew.cell rfl, HJ3.out.drew.cell rfl⟩ ?_
  simp only [yD, yE, yF, yG]
  (repeat (first | (refine qs_mid (v := ?_) (by rfl) ?_ ?_; rotate_left 1; (· (intro j w' hj1 hj2 hS; go_simp; (try (simp only [↓IntWalk.iteOmega]; go_simp)); (try simp (disch := omega) only [IntWalk.i64_in]); try with_reducible rfl)); simp only [Act.put, yA, yB, yC]) | (refine qs_skip (by rfl) ?_; simp only [Act.put, yA, yB, yC])))
  refine qs_act ?_
  go_wp2_with (go_at_call 165; refine HB.out.mono ?_; rintro e w4 ⟨v, rfl, hO, hC, hT⟩; have O4 := yH hO; have C4 := yH hC; have T4 := yH hT; clear hO hC hT)
  have J4 := yH (HJ3.out.drew.cc (C3.out.below (Below.refl _ w3).drew) T4.out (by decide))
  have X4 := yH (HX3.out.drew.cc (C3.out.below (Below.refl _ w3).drew) T4.out (by decide))
  refine ⟨⟨X4.out.cell rfl, J4.out.cell rfl, J4.out.cell rfl⟩, ?_⟩
  (repeat (first | (refine qs_mid (v := ?_) (by rfl) ?_ ?_; rotate_left 1; (· (intro j w' hj1 hj2 hS; go_simp; (try (simp only [↓IntWalk.iteOmega]; go_simp)); (try simp (disch := omega) only [IntWalk.i64_in]); try with_reducible rfl)); simp only [Act.put, yA, yB, yC]) | (refine qs_skip (by rfl) ?_; simp only [Act.put, yA, yB, yC])))
  refine qs_nil ?_
  refine ⟨rfl, ?_⟩
  obtain ⟨hO1, hO2⟩ := O4.out
  rcases hO2 with ⟨_, hO2⟩ | ⟨b, cap, cur, rfl, hO5, hO6, hO3, hO4⟩
  ·omega
  go_wp2_with (first
   | (refine wpl_allocD rfl 130 (by rfl) (.slice none 0 0) Tryz.zeroValue130 rfl ?_; intro w5 hk hg hz; have L5 := yH (bl_n (Below.refl _ w4) hg); have J5 := yH (J4.out.below L5.out J4.out.lt); have X5 := yH (X4.out.below L5.out X4.out.lt); have O5 := yH hk; have x5 := X5.out.cell (i := 0) (v := .pointer (some ⟨J, 0, none⟩)) rfl; clear hk hg hz; simp only [Act.put, yA, yB, yC])
   | (go_at_call 166; refine (jr_recf b cap J w5).mono ?_; rintro e w6 ⟨jx, bx, rfl, hb, hj, hl⟩; have BX6 := yH (show Blk w6 bx 25 #[.slice (some ⟨b, 0, none⟩) 4096 cap] from hb); have JX6 := yH (show Blk w6 jx 129 #[.pointer (some ⟨J, 0, none⟩)] from hj); have L6 := yH hl; clear hb hj hl))
  have RD := yH (show RdI .u8 w4 (some ⟨b, 0, none⟩) 4096 zs4 from RdI.of_own (by have := O4.out; rw [HZ.out] at this; exact this))
  have L46 := yH (show Below w4.heap.size w4 w6 from below_chain L5.out L6.out)
  have J6 := yH (J4.out.below L46.out J4.out.lt)
  have T6 := yH (show Tch [c, kb, sb, ob] w w6 from ((T3.out.trans (Tch.below (Below.refl _ w3).drew)).trans T4.out).trans (Tch.below L46.out))
  have hJlt := J6.out.lt
  have C6 := yH (C4.out.below L46.out)
  have RD6 := yH (RD.out.below L46.out)
  have x6 := yH ((X4.out.below L46.out X4.out.lt))
  have o6 := yH (show Blk w6 w4.heap.size 130 #[.slice none 0 0] from by have h := O5.out; exact h.below L6.out h.lt)
  refine (wpIn_wide (n := 4)).1 ?_
  refine wpIn_range_none (gf := 240) (lb := #[.pointer (some ⟨bx, 0, none⟩), .pointer (some ⟨jx, 0, none⟩)]) rfl (enters_of Tryz.func240 (by kernel_rfl) rfl) ?_ ?_
  ·intro l W hb
   exact jr_recs l (BX6.out.below hb BX6.out.lt) (JX6.out.below hb JX6.out.lt) (J6.out.below hb J6.out.lt) (RD6.out.below hb) hO3
  ·intro D W hD hb hK
   have J7 := yH (J6.out.below hb J6.out.lt)
   have X7 := yH (x6.out.below hb x6.out.lt)
   have O7 := yH (o6.out.below hb o6.out.lt)
   have C7 := yH (C6.out.below hb)
   have T7 := yH (T6.out.trans (Tch.below hb))
   have HK := yH hK
   have LW := yH hb
   clear hb hK
   go_upto_region 15 with fail
   refine wp_region_qn (fun _ w' => w'.cell? ⟨X, 0, none⟩ = some (.pointer (some ⟨J, 0, none⟩)) ∧ w'.cell? ⟨w4.heap.size, 0, none⟩ = some (.slice none 0 0)) [(0, some 0), (1, some 0), (2, some 0), (3, some 0), (4, some 0)] (by kernel_rfl) (by kernel_rfl) (by kernel_rfl) (by kernel_rfl) (by kernel_rfl) (fun _ _ _ _ _ h => h) ⟨X7.out.drew.cell rfl, O7.out.drew.cell rfl⟩ ?_
   simp only [yD, yE, yF, yG]
   (repeat (first | (refine qs_mid (v := ?_) (by rfl) ?_ ?_; rotate_left 1; (· (intro j w' hj1 hj2 hS; go_simp; (try (simp only [↓IntWalk.iteOmega]; go_simp)); (try simp (disch := omega) only [IntWalk.i64_in]); try with_reducible rfl)); simp only [Act.put, yA, yB, yC]) | (refine qs_skip (by rfl) ?_; simp only [Act.put, yA, yB, yC])))
   refine qs_nil ?_
   refine ⟨rfl, ?_⟩
   go_wp2_with fail
   refine ⟨by simp, .inl ⟨_, _, rfl, run_takeDeferred (show W.drew.heap[D]? = some (.deferred (some [])) from HK.out), ?_⟩⟩
   have G8 := grownBy_putObj' W.drew D (.deferred none)
   have LF := yH (show Below w6.heap.size w6 (W.drew.putObj D (.deferred none)) from LW.out.drew.grown G8 LW.out.size (fun k hk => by injection hk with hk; omega))
   refine ⟨.tuple #[.pointer (some ⟨J, 0, none⟩), .slice none 0 0, .int .i64 0], ?_, J, .slice none 0 0, rfl, C6.out.below LF.out, J6.out.below LF.out J6.out.lt, HJ.out.1, T6.out.trans (Tch.below LF.out)⟩
   simp [results, Tryz.f84, go_sem]
end Go.Proofs.YtffalfacakdhkaaGreatDoor
namespace Go.Proofs.YtffalfacakdhkaaGreatDoor
open Go.RowKit Go.Maps Go.Shelf
set_option linter.unusedVariables false
set_option linter.unusedSimpArgs false
set_option maxRecDepth 100000 in
theorem im_places {w : World} {si xi bx mi bs n : Nat} {f : MpF} {M : SnM} (hs : StIs w si xi bx mi bs n [] f M) : Calls Tryz.prog 122 #[.pointer (some ⟨si, 0, none⟩)] w fun e w' => e = .returned (.slice none 0 0) ∧ Below w.heap.size w w' := by
 have HS := yH hs
 clear hs
 go_enter Tryz.func122, Tryz.ntmps122
 go_wp2_with (first
  | (go_at_call 119; refine (st_index HS.out).mono ?_; rintro e w1 ⟨rfl, rfl⟩)
  | (go_at_call 153; refine (xItems_any HS.out.idx (by simp)).mono ?_; rintro e w1 ⟨v, rfl, ho, hl⟩; rewrite [xItems_len] at ho; obtain ⟨A, c, rfl, _⟩ := own_slice ho; have L1 := yH hl; clear hl ho))
 go_loopg [3, 10] 0 (fun (k : Nat) v3 iv wk => v3 = .slice none 0 0 ∧ iv = .int .i64 0 ∧ wk = w1)
 ·exact ⟨rfl, rfl, rfl⟩
 ·obtain ⟨rfl, rfl, rfl⟩ := hrel
  go_wp2
  go_ret
  exact ⟨rfl, L1.out⟩
set_option maxRecDepth 100000 in
theorem im_used {w : World} {x si xi bx mi bs n : Nat} {f : MpF} {M : SnM} (hs : StIs w si xi bx mi bs n [] f M) (hg : w.rangeAt x 2 (geC geS)) (hc : w.cell? ⟨x, 11, none⟩ = some (.pointer (some ⟨si, 0, none⟩))) :
  Calls Tryz.prog 115 #[.pointer (some ⟨x, 0, none⟩)] w fun e w' => ∃ g, e = .returned (.slice (some ⟨g, 0, none⟩) 4 4) ∧ Blk w' g 3 z4 ∧ Below w.heap.size w w' := by
 have HS := yH hs
 have HK := yH (show ∀ W, Below w.heap.size w W → W.rangeAt x 2 (geC geS) ∧ W.cell? ⟨x, 11, none⟩ = some (.pointer (some ⟨si, 0, none⟩)) from fun W hb => ⟨range_below hg hb, cell_below hc hb⟩)
 have LD := yH (Below.refl w.heap.size w).drew
 clear hs hg hc
 go_enter Tryz.func115, Tryz.ntmps115
 go_upto_region 1 with fail
 refine wp_region_qs (fun _ w' => w'.rangeAt x 2 (geC geS) ∧ w'.cell? ⟨x, 11, none⟩ = some (.pointer (some ⟨si, 0, none⟩))) [(0, some 2), (1, some 2), (2, some 2), (3, some 2), (4, some 1), (5, some 2), (6, some 2), (7, some 2), (8, some 1), (9, none), (10, none), (11, some 2), (12, some 2), (13, some 2), (14, some 2), (15, some 2)] (by kernel_rfl) (by kernel_rfl) (by kernel_rfl) (by kernel_rfl) (by kernel_rfl) (fun _ _ _ _ _ h => h) (HK.out _ LD.out) ?_
 simp only [yD, yE, yF, yG]
 (repeat (first | ((refine qs_row (by rfl) 66 (.tmp 9) (by rfl) x 2 (by rfl) (geC geS) _ (fun j w' _ h2 h => h.1) Tryz.underlying66 rfl (geC_info _) ?_); simp only [Act.put, yA, yB, yC]) | (refine qs_mid (v := ?_) (by rfl) ?_ ?_; rotate_left 1; (· (intro j w' hj1 hj2 hS; go_simp; (try (simp only [↓IntWalk.iteOmega]; go_simp)); (try simp (disch := omega) only [IntWalk.i64_in]); try with_reducible rfl)); simp only [Act.put, yA, yB, yC]) | (refine qs_skip (by rfl) ?_; simp only [Act.put, yA, yB, yC])))
 refine qs_act ?_
 go_wp2_with (go_at_call 122; refine (im_places (HS.out.below LD.out)).mono ?_; rintro e w1 ⟨rfl, hl⟩; have L1 := yH (below_chain LD.out hl); clear hl)
 refine ⟨HK.out _ L1.out, ?_⟩
 refine qs_act ?_
 go_wp2_with (go_at_call 161; refine (us_used w1).mono ?_; rintro e w2 ⟨g, rfl, hb, hl, hge⟩; have L2 := yH (below_chain L1.out hl); have B2 := yH hb; clear hb hl hge)
 refine ⟨HK.out _ L2.out, ?_⟩
 (repeat (first | (refine qs_mid (v := ?_) (by rfl) ?_ ?_; rotate_left 1; (· (intro j w' hj1 hj2 hS; go_simp; (try (simp only [↓IntWalk.iteOmega]; go_simp)); (try simp (disch := omega) only [IntWalk.i64_in]); try with_reducible rfl)); simp only [Act.put, yA, yB, yC]) | (refine qs_skip (by rfl) ?_; simp only [Act.put, yA, yB, yC])))
 refine qs_nil ?_
 go_wp2_with fail
 go_ret
 exact ⟨g, rfl, B2.out, L2.out⟩
end Go.Proofs.YtffalfacakdhkaaGreatDoor
namespace Go.Proofs.YtffalfacakdhkaaGreatDoor
open Go.RowKit Go.Maps Go.Shelf
set_option linter.unusedVariables false
set_option linter.unusedSimpArgs false
def hdZ0 : Hd := ⟨geS, 0, 0, 0, 1⟩
def hdZ1 : Hd := ⟨geS, 1, 0, 0, 1⟩
def imZ (d c si : Nat) : List Value := .pointer (some ⟨d, 0, none⟩) :: .pointer (some ⟨c, 0, none⟩) :: (hdC hdZ0 ++ [.pointer (some ⟨si, 0, none⟩), .pointer none, .pointer none, .int .u32 0])
theorem zs4_of (L : Int → Sec) (X : List Sec) (Y : List Sec) (hY : Y.length = 1) : secsL (secsAt (putL (putL (putL L 126 X) 10 (List.replicate 8 zSec)) 1 Y) 10 8) = bV zs4 := by
 have h : secsAt (putL (putL (putL L 126 X) 10 (List.replicate 8 zSec)) 1 Y) 10 8 = List.replicate 8 zSec := by
  rw [List.eq_replicate_iff]
  refine ⟨secsAt_len _ _ _, fun b hb => ?_⟩
  unfold secsAt at hb
  obtain ⟨j, hj, rfl⟩ := List.mem_map.1 hb
  have hj8 : j < 8 := by simpa using hj
  unfold putL
  rw [if_neg (by rw [hY]; omega), if_pos (by simp; omega), List.getD_eq_getElem?_getD, List.getElem?_replicate, if_pos (by omega)]
  rfl
 rw [h, zsecs]
 unfold bV zs4
 rw [List.map_replicate]
theorem hdZ1_ok : HdI hdZ1 ∧ SvOk 400 hdZ1 := ⟨⟨geS_geB, by unfold rI hdZ1; decide, by unfold rI hdZ1; decide⟩, ⟨geS_right, by decide, by unfold hdZ1; decide, by unfold hdZ1; decide⟩⟩
theorem im_save [gm : Inhabited GMk] {w : World} {c kb d sb ob N si xi bx mi bs u : Nat} {L : Int → Sec} (h : CcI w c kb d sb ob 400 L N) (hs : StIs w si xi bx mi bs u [] zF []) (hN : N ≤ 700000) :
  Calls Tryz.prog 208 #[.pointer (some ⟨c, 0, none⟩), .agg (hdC hdZ1).toArray, .pointer (some ⟨si, 0, none⟩)] w fun e w' => e = .returned (.int .i64 0) ∧ (∃ L', CcI w' c kb d sb ob 400 L' (N + 13) ∧ secsL (secsAt L' 10 8) = bV zs4) ∧ Tch [c, kb, sb, ob] w w' := by
 refine (pt_save_ok h hs geS 1 0 0 1 hdZ1_ok.1 hdZ1_ok.2 hN 126 10 8 (by decide) (by decide) (by decide)).mono ?_
 rintro e w' ⟨rfl, hC, hT⟩
 exact ⟨rfl, ⟨_, hC, zs4_of L pgS _ rfl⟩, hT⟩
def imJ (d c si jb : Nat) : List Value := .pointer (some ⟨d, 0, none⟩) :: .pointer (some ⟨c, 0, none⟩) :: (hdC hdZ1 ++ [.pointer (some ⟨si, 0, none⟩), .pointer (some ⟨jb, 0, none⟩), .pointer none, .int .u32 0])
theorem imZ_put (d c si jb : Nat) : (putAt (imZ d c si).toArray 2 (hdC hdZ1)).setIfInBounds 12 (.pointer (some ⟨jb, 0, none⟩)) = (imJ d c si jb).toArray := by kernel_rfl
theorem imJ_put (x c kb d sb ob si xi bx mi bs jb rb : Nat) : (imJ d c si jb).toArray.setIfInBounds 13 (.pointer (some ⟨rb, 0, none⟩)) = (imC ⟨x, c, kb, d, sb, ob, si, xi, bx, mi, bs, jb, rb⟩ hdZ1).toArray := by kernel_rfl
theorem info_psp : (Tryz.prog.info? 142).map (·.size) = some 1 := by kernel_rfl
theorem hdC_set0 : (hdC hdZ0).toArray.setIfInBounds 5 (.int .i64 1) = (hdC hdZ1).toArray := rfl
set_option maxRecDepth 100000 in
set_option maxHeartbeats 1000000 in
theorem im_settle [gm : Inhabited GMk] {w : World} {x c kb d sb ob N si xi bx mi bs : Nat} {L : Int → Sec} (h : CcI w c kb d sb ob 400 L N) (hs : StIs w si xi bx mi bs 8 [] zF []) (hx : Blk w x 148 (imZ d c si).toArray) (hN : N ≤ 1000) (hf : (bx ≠ kb ∧ bx ≠ sb ∧ bx ≠ ob) ∧ (bs ≠ kb ∧ bs ≠ sb ∧ bs ≠ ob)) :
  Calls Tryz.prog 144 #[.pointer (some ⟨x, 0, none⟩)] w fun e w' => e = .returned (.int .i64 0) ∧ (∃ jb rb, ImIs w' ⟨x, c, kb, d, sb, ob, si, xi, bx, mi, bs, jb, rb⟩ (N + 21) 0 hdZ1 [] ∧ w.heap.size ≤ jb) ∧ Tch [c, kb, sb, ob, x] w w' := by
 have H := yH h
 have HS := yH hs
 have HX := yH hx
 have HN := yH hN
 have R0 := yH (hx.part 2 (hdC hdZ0) rfl)
 have HF := yH hf
 clear h hs hx hN hf
 go_enter Tryz.func144, Tryz.ntmps144
 go_upto_region 3 with (first
  | (refine wpList_load_mid rfl 123 (.tmp 10) (by rfl) x 2 (by rfl) (hdC hdZ0) _ R0.out Tryz.underlying123 rfl (hdC_info hdZ0) ?_; simp only [Act.put, yA, yB, yC])
  | (refine wpl_alloc rfl 123 (by rfl) Tryz.zeroValue123 9 (by rfl) ?_; intro w1 cs hk hc hg hz; have B1 := yH hk; have C1 := yH hc; have L1 := yH (bl_n (Below.refl w.heap.size w) hg); clear hk hc hg hz; simp only [Act.put, yA, yB, yC])
  | (refine wpl_over rfl 123 (.tmp 3) (.tmp 11) (by rfl) w.heap.size (hdC hdZ0) (by rfl) (by rfl) _ cs B1.out (hdC_info hdZ0) (by rw [C1.out]; rfl) (hdC_one hdZ0) ?_; intro w2 hb hg hz; have B2 := yH hb; have L2 := yH (bl_g L1.out hg (Nat.le_refl _)); have c5 : w2.cell? ⟨w.heap.size, 5, none⟩ = some (.int .i64 0) := B2.out.cell rfl; clear hb hg hz; simp only [Act.put, yA, yB, yC])
  | (refine wpl_setD rfl 3 (.tmp 15) (.tmp 14) (by rfl) w.heap.size 5 (.int .i64 1) (by rfl) (by rfl) _ _ B2.out info_intD (by show 5 < 9; omega) (by rfl) (by rfl) ?_; intro w3 hb hg hz; have B3 := yH (show Blk w3 w.heap.size 123 (hdC hdZ1).toArray by rw [← hdC_set0]; exact hb); have L3 := yH (bl_g L2.out hg (Nat.le_refl _)); clear hb hg hz; simp only [Act.put, yA, yB, yC]))
 clear B1 C1 L1 B2 L2 R0 c5
 have X3 := yH (HX.out.below L3.out HX.out.lt)
 have H3 := yH (H.out.below L3.out)
 have S3 := yH (HS.out.below L3.out)
 have T3 := yH (show Tch [c, kb, sb, ob] w w3 from Tch.below L3.out)
 have HL := yH (show w.heap.size < w3.heap.size from B3.out.lt)
 have HXl := yH HX.out.lt
 clear L3
 obtain ⟨hb, hhb⟩ : ∃ hb, hb = w.heap.size := ⟨_, rfl⟩
 rw [← hhb] at B3 HL HXl ⊢
 have HHB := yH hhb
 clear hhb
 have HSv := yH (im_save (H3.out.below (Below.refl _ w3).drew) S3.out.drew (by have := HN.out; omega))
 refine wp_region_qs (fun _ w' => w'.rangeAt hb 0 (hdC hdZ1) ∧ w'.cell? ⟨x, 1, none⟩ = some (.pointer (some ⟨c, 0, none⟩)) ∧ w'.cell? ⟨x, 11, none⟩ = some (.pointer (some ⟨si, 0, none⟩))) [(0, some 1), (1, some 1), (2, some 1), (3, some 0), (4, some 0), (5, some 1), (6, some 1), (7, some 1), (8, some 0), (9, none), (10, some 1)] (by kernel_rfl) (by kernel_rfl) (by kernel_rfl) (by kernel_rfl) (by kernel_rfl) (fun _ _ _ _ _ h => h) ⟨B3.out.drew.part 0 (hdC hdZ1) rfl, X3.out.drew.cell rfl, X3.out.drew.cell rfl⟩ ?_
 simp only [yD, yE, yF, yG]
 (repeat (first | ((first | (refine qs_row (by rfl) 123 (.tmp 3) (by with_reducible rfl) hb 0 (by rfl) (hdC hdZ1) _ (fun j w' _ h2 h => h.1) Tryz.underlying123 rfl (hdC_info _) ?_)); simp only [Act.put, yA, yB, yC]) | (refine qs_mid (v := ?_) (by rfl) ?_ ?_; rotate_left 1; (· (intro j w' hj1 hj2 hS; go_simp; (try (simp only [↓IntWalk.iteOmega]; go_simp)); (try simp (disch := omega) only [IntWalk.i64_in]); try with_reducible rfl)); simp only [Act.put, yA, yB, yC]) | (refine qs_skip (by rfl) ?_; simp only [Act.put, yA, yB, yC])))
 refine qs_act ?_
 go_wp2_with (go_at_call 208; refine HSv.out.mono ?_; rintro e w4 ⟨rfl, hC, hT⟩; have C4 := yH hC; have T4 := yH hT; clear hC hT)
 have B4 := yH (B3.out.drew.cc (H3.out.below (Below.refl _ w3).drew) T4.out (by decide))
 have X4 := yH (X3.out.drew.cc (H3.out.below (Below.refl _ w3).drew) T4.out (by decide))
 have S4 := yH (S3.out.drew.cc (H3.out.below (Below.refl _ w3).drew) HF.out T4.out)
 have TT4 := yH (show Tch [c, kb, sb, ob] w w4 from (T3.out.trans (Tch.below (Below.refl _ w3).drew)).trans T4.out)
 refine ⟨⟨B4.out.part 0 (hdC hdZ1) rfl, X4.out.cell rfl, X4.out.cell rfl⟩, ?_⟩
 (repeat (first | (refine qs_mid (v := ?_) (by rfl) ?_ ?_; rotate_left 1; (· (intro j w' hj1 hj2 hS; go_simp; (try (simp only [↓IntWalk.iteOmega]; go_simp)); (try simp (disch := omega) only [IntWalk.i64_in]); try with_reducible rfl)); simp only [Act.put, yA, yB, yC]) | (refine qs_skip (by rfl) ?_; simp only [Act.put, yA, yB, yC])))
 refine qs_nil ?_
 clear B3 X3 S3 H3 T3 HSv T4 H HS HX
 obtain ⟨L4, hC4, hZ4⟩ := C4.out
 have D4 := yH hC4
 have Z4 := yH hZ4
 clear hC4 hZ4 C4
 go_upto_region 6 with fail
 have HJ := yH (jr_open (D4.out.below (Below.refl _ w4).drew) (by have := HN.out; omega) Z4.out)
 refine wp_region_qs (fun _ w' => w'.rangeAt hb 0 (geC geS) ∧ w'.cell? ⟨hb, 5, none⟩ = some (.int .i64 1) ∧ w'.cell? ⟨x, 1, none⟩ = some (.pointer (some ⟨c, 0, none⟩))) [(0, some 1), (1, some 1), (2, some 1), (3, some 0), (4, some 1), (5, some 0), (6, some 1), (7, some 0), (8, none), (9, some 1), (10, some 1), (11, some 1), (12, some 1), (13, some 1), (14, some 1), (15, some 1)] (by kernel_rfl) (by kernel_rfl) (by kernel_rfl) (by kernel_rfl) (by kernel_rfl) (fun _ _ _ _ _ h => h) ⟨B4.out.drew.part 0 (geC geS) rfl, B4.out.drew.cell rfl, X4.out.drew.cell rfl⟩ ?_
 simp only [yD, yE, yF, yG]
 (repeat (first | ((first | (refine qs_row (by rfl) 66 (.tmp 34) (by with_reducible rfl) hb 0 (by rfl) (geC geS) _ (fun j w' _ h2 h => h.1) Tryz.underlying66 rfl (geC_info _) ?_)); simp only [Act.put, yA, yB, yC]) | (refine qs_mid (v := ?_) (by rfl) ?_ ?_; rotate_left 1; (· (intro j w' hj1 hj2 hS; go_simp; (try (simp only [↓IntWalk.iteOmega]; go_simp)); (try simp (disch := omega) only [IntWalk.i64_in]); try with_reducible rfl)); simp only [Act.put, yA, yB, yC]) | (refine qs_skip (by rfl) ?_; simp only [Act.put, yA, yB, yC])))
 refine qs_act ?_
 go_wp2_with (go_at_call 84; refine HJ.out.mono ?_; rintro e w5 ⟨jb, v, rfl, hC, hb1, hge, hT⟩; have C5 := yH hC; have T5 := yH hT; have J5 := yH hb1; have G5 := yH hge; clear hC hT hb1 hge)
 have B5 := yH (B4.out.drew.cc (D4.out.below (Below.refl _ w4).drew) T5.out (by decide))
 have X5 := yH (X4.out.drew.cc (D4.out.below (Below.refl _ w4).drew) T5.out (by decide))
 have S5 := yH (S4.out.drew.cc (D4.out.below (Below.refl _ w4).drew) HF.out T5.out)
 have TT5 := yH (show Tch [c, kb, sb, ob] w w5 from (TT4.out.trans (Tch.below (Below.refl _ w4).drew)).trans T5.out)
 have GJ := yH (show w.heap.size ≤ jb from Nat.le_trans TT4.out.size G5.out)
 refine ⟨⟨B5.out.part 0 (geC geS) rfl, B5.out.cell rfl, X5.out.cell rfl⟩, ?_⟩
 (repeat (first | (refine qs_mid (v := ?_) (by rfl) ?_ ?_; rotate_left 1; (· (intro j w' hj1 hj2 hS; go_simp; (try (simp only [↓IntWalk.iteOmega]; go_simp)); (try simp (disch := omega) only [IntWalk.i64_in]); try with_reducible rfl)); simp only [Act.put, yA, yB, yC]) | (refine qs_skip (by rfl) ?_; simp only [Act.put, yA, yB, yC])))
 refine qs_nil ?_
 clear B4 X4 S4 D4 T5 HJ Z4 TT4 G5
 have L5 := yH (Below.refl w5.heap.size w5)
 have x5 := yH X5.out.lt
 have RB := yH (B5.out.part 0 (hdC hdZ1) rfl)
 go_upto_region 11 with (first
  | (refine wpList_load_mid rfl 123 (.tmp 3) (by rfl) hb 0 (by rfl) (hdC hdZ1) _ RB.out Tryz.underlying123 rfl (hdC_info hdZ1) ?_; simp only [Act.put, yA, yB, yC])
  | (refine wpl_put rfl 123 (.tmp 50) (.tmp 47) (by rfl) x 2 (hdC hdZ1) (by rfl) (by rfl) _ _ X5.out (hdC_info hdZ1) (by show 2 + 9 ≤ 15; omega) (hdC_one hdZ1) ?_; intro w6 hb1 hg hz; have X6 := yH hb1; have T6 := yH (Tch.one hg); clear hb1 hg hz; simp only [Act.put, yA, yB, yC])
  | (refine wpl_setD rfl 129 (.tmp 52) (.tmp 48) (by rfl) x 12 (.pointer (some ⟨jb, 0, none⟩)) (by rfl) (by rfl) _ _ X6.out info_pjr (by rw [size_putAt]; show 12 < 15; omega) (by rfl) (by rfl) ?_; intro w7 hb1 hg hz; have X7 := yH (show Blk w7 x 148 (imJ d c si jb).toArray by rw [← imZ_put]; exact hb1); have T7 := yH (T6.out.trans (Tch.one hg)); have x13 : w7.cell? ⟨x, 13, none⟩ = some (.pointer none) := X7.out.cell rfl; clear hb1 hg hz; simp only [Act.put, yA, yB, yC]))
 have C7 := yH (C5.out.oth X5.out (by decide) (by decide) (by decide) T7.out)
 have B7 := yH (B5.out.tch T7.out (by have := blk_ne_tyD B5.out X5.out (by decide); simpa using this))
 have J7 := yH (J5.out.tch T7.out (by have := blk_ne_tyD J5.out X5.out (by decide); simpa using this))
 have S7 := yH (S5.out.tch T7.out (by have := blk_ne_tyD S5.out.blk X5.out (by decide); simpa using this) (by have := blk_ne_tyD S5.out.idx.blk X5.out (by decide); simpa using this) (by have := blk_ne_mapD S5.out.idx.map X5.out; simpa using this.symm) (by have := blk_ne_tyD S5.out.maps.blk X5.out (by decide); simpa using this) (by have := blk_ne_mapD S5.out.maps.map X5.out; simpa using this.symm) (by intro p hp; cases hp))
 have TT7 := yH (show Tch [c, kb, sb, ob, x] w w7 from (TT5.out.mono (fun k hk => by simp at hk ⊢; omega)).trans (T7.out.mono (fun k hk => by simp at hk ⊢; omega)))
 clear X5 B5 J5 S5 C5 X6 T6 T7 RB L5 x5 x13 TT5
 refine wp_region_qs (fun _ w' => w'.rangeAt hb 0 (geC geS)) [(0, some 2), (1, some 2), (2, some 1), (3, some 1), (4, none), (5, none), (6, some 3), (7, some 2), (8, none)] (by kernel_rfl) (by kernel_rfl) (by kernel_rfl) (by kernel_rfl) (by kernel_rfl) (fun _ _ _ _ _ h => h) (B7.out.drew.part 0 (geC geS) rfl) ?_
 simp only [yD, yE, yF, yG]
 (repeat (first | ((first | (refine qs_row (by rfl) 66 (.tmp 59) (by with_reducible rfl) hb 0 (by rfl) (geC geS) _ (fun j w' _ h2 h => h) Tryz.underlying66 rfl (geC_info _) ?_)); simp only [Act.put, yA, yB, yC]) | (refine qs_mid (v := ?_) (by rfl) ?_ ?_; rotate_left 1; (· (intro j w' hj1 hj2 hS; go_simp; (try (simp only [↓IntWalk.iteOmega]; go_simp)); (try simp (disch := omega) only [IntWalk.i64_in]); try with_reducible rfl)); simp only [Act.put, yA, yB, yC]) | (refine qs_skip (by rfl) ?_; simp only [Act.put, yA, yB, yC])))
 refine qs_act ?_
 go_wp2_with (go_at_call 115; refine (im_used S7.out.drew (X7.out.drew.part 2 (geC geS) rfl) (X7.out.drew.cell rfl)).mono ?_; rintro e w8 ⟨g, rfl, hg, hl⟩; have L8 := yH (below_chain (Below.refl _ w7).drew hl); have G8 := yH hg; clear hg hl)
 refine ⟨(B7.out.below L8.out B7.out.lt).part 0 (geC geS) rfl, ?_⟩
 refine qs_act ?_
 go_wp2_with (go_at_call 209; refine (sp_new g w8 G8.out).mono ?_; rintro e w9 ⟨rb, rfl, hl⟩; have L9 := yH (below_chain L8.out hl); clear hl)
 have X9 := yH (X7.out.below L9.out X7.out.lt)
 refine ⟨(B7.out.below L9.out B7.out.lt).part 0 (geC geS) rfl, ?_⟩
 (repeat (first | (refine qs_mid (v := ?_) (by rfl) ?_ ?_; rotate_left 1; (· (intro j w' hj1 hj2 hS; go_simp; (try (simp only [↓IntWalk.iteOmega]; go_simp)); (try simp (disch := omega) only [IntWalk.i64_in]); try with_reducible rfl)); simp only [Act.put, yA, yB, yC]) | (refine qs_skip (by rfl) ?_; simp only [Act.put, yA, yB, yC])))
 refine qs_act ?_
 go_wp2_with (refine wpl_setD rfl 142 (.tmp 65) (.tmp 63) (by rfl) x 13 (.pointer (some ⟨rb, 0, none⟩)) (by rfl) (by rfl) _ _ X9.out info_psp (by show 13 < 15; omega) (by rfl) (by rfl) ?_; intro w10 hb1 hg hz; have X10 := yH (show Blk w10 x 148 (imC ⟨x, c, kb, d, sb, ob, si, xi, bx, mi, bs, jb, rb⟩ hdZ1).toArray by rw [← imJ_put]; exact hb1); have T10 := yH (show Tch [x] w7 w10 from (Tch.below L9.out).trans (Tch.one hg)); clear hb1 hg hz)
 have B10 := yH (B7.out.tch T10.out (by have := blk_ne_tyD B7.out X7.out (by decide); simpa using this))
 refine ⟨B10.out.part 0 (geC geS) rfl, ?_⟩
 (repeat (first | (refine qs_mid (v := ?_) (by rfl) ?_ ?_; rotate_left 1; (· (intro j w' hj1 hj2 hS; go_simp; (try (simp only [↓IntWalk.iteOmega]; go_simp)); (try simp (disch := omega) only [IntWalk.i64_in]); try with_reducible rfl)); simp only [Act.put, yA, yB, yC]) | (refine qs_skip (by rfl) ?_; simp only [Act.put, yA, yB, yC])))
 refine qs_nil ?_
 go_wp2_with fail
 go_ret
 refine ⟨rfl, ⟨jb, rb, ⟨X10.out, ⟨_, C7.out.oth X7.out (by decide) (by decide) (by decide) T10.out⟩, ?_, J7.out.tch T10.out (by have := blk_ne_tyD J7.out X7.out (by decide); simpa using this), ⟨by simp, by simp⟩, (by intro p hp; cases hp), HF.out, rfl⟩, GJ.out⟩, ?_⟩
 ·exact S7.out.tch T10.out (by have := blk_ne_tyD S7.out.blk X7.out (by decide); simpa using this) (by have := blk_ne_tyD S7.out.idx.blk X7.out (by decide); simpa using this) (by have := blk_ne_mapD S7.out.idx.map X7.out; simpa using this.symm) (by have := blk_ne_tyD S7.out.maps.blk X7.out (by decide); simpa using this) (by have := blk_ne_mapD S7.out.maps.map X7.out; simpa using this.symm) (by intro p hp; cases hp)
 ·exact TT7.out.trans (T10.out.mono (fun k hk => by simp at hk ⊢; omega))
end Go.Proofs.YtffalfacakdhkaaGreatDoor
