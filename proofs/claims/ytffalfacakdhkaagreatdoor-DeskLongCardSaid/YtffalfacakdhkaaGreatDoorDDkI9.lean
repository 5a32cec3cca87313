/-
  what this claim needs of: DkI9 (written by cut.py).
-/
import Derived.Test.YtffalfacakdhkaaGreatDoorDDkC4
import Derived.Test.YtffalfacakdhkaaGreatDoorDDkJ3
import Derived.Test.YtffalfacakdhkaaGreatDoorDQnH2
namespace Go.Proofs.YtffalfacakdhkaaGreatDoor
open Go.RowKit Go.Maps Go.Shelf
set_option linter.unusedVariables false
set_option linter.unusedSimpArgs false
def stV (A : Option Addr) (n c : Nat) : List Value := geC geS ++ [.int .i64 0, .int .i64 0, .int .i64 4, .slice A n c, .int .i64 0]
theorem built_stt (A : Option Addr) (n c : Nat) : Tryz.prog.built 68 [(0, .agg (geC geS).toArray), (1, .int .i64 0), (3, .int .i64 4), (4, .slice A n c)] = some (stV A n c).toArray := by kernel_rfl
theorem stV_info (A : Option Addr) (n c : Nat) : (Tryz.prog.info? 68).map (·.size) = some (stV A n c).length := by kernel_rfl
theorem stV_one (A : Option Addr) (n c : Nat) : ∀ v ∈ stV A n c, v.oneCell' = true := by simp [stV, geC, Value.oneCell']
structure StR4 (W : World) (M : SnM) (A : Option Addr) (c s : Nat) (w' : World) : Prop where
 blk : Blk w' s 68 (stV A M.length c).toArray
 ids : w'.ownsRow W.heap.size 3 1 (.slice A M.length c) M.length ((sIds M).map (Value.int .i64))
 low : Below W.heap.size W w'
 ge : W.heap.size ≤ s
section
variable {W : World} {i : ImI} {N q : Nat} {Y : Hd} {M : SnM}
theorem ss_index [gm : Inhabited GMk] (h : ImIs W i N q Y M) : Calls Tryz.prog 119 #[.pointer (some ⟨i.si, 0, none⟩)] W fun e w' => e = .returned (.pointer (some ⟨i.xi, 0, none⟩)) ∧ Below W.heap.size W w' := (st_index h.st).mono (by rintro e w' ⟨rfl, rfl⟩; exact ⟨rfl, Below.refl _ _⟩)
theorem ss_len [gm : Inhabited GMk] (h : ImIs W i N q Y M) : Calls Tryz.prog 120 #[.pointer (some ⟨i.xi, 0, none⟩)] W fun e w' => e = .returned (.int .i64 0) ∧ Below W.heap.size W w' := (x_len h.st.idx).mono (by rintro e w' ⟨rfl, rfl⟩; exact ⟨rfl, Below.refl _ _⟩)
theorem ss_used [gm : Inhabited GMk] (h : ImIs W i N q Y M) : Calls Tryz.prog 115 #[.pointer (some ⟨i.x, 0, none⟩)] W fun e w' => ∃ g, e = .returned (.slice (some ⟨g, 0, none⟩) 4 4) ∧ Blk w' g 3 z4 ∧ Below W.heap.size W w' := im_used h.st (by have := h.blk.part 2 (geC Y.geo) rfl; rwa [h.geo] at this) h.c11
theorem ss_free {g : Nat} (h : Blk W g 3 z4) : Calls Tryz.prog 121 #[.slice (some ⟨g, 0, none⟩) 4 4] W fun e w' => e = .returned (.int .i64 4) ∧ Below W.heap.size W w' := (us_free h).mono (by rintro e w' ⟨rfl, rfl⟩; exact ⟨rfl, Below.refl _ _⟩)
theorem ss_maps [gm : Inhabited GMk] (h : ImIs W i N q Y M) : Calls Tryz.prog 107 #[.pointer (some ⟨i.si, 0, none⟩)] W fun e w' => e = .returned (.pointer (some ⟨i.mi, 0, none⟩)) ∧ Below W.heap.size W w' := (st_maps h.st).mono (by rintro e w' ⟨rfl, rfl⟩; exact ⟨rfl, Below.refl _ _⟩)
theorem ss_ids [gm : Inhabited GMk] (h : ImIs W i N q Y M) : Calls Tryz.prog 108 #[.pointer (some ⟨i.mi, 0, none⟩)] W fun e w' => ∃ A c, e = .returned (.slice A M.length c) ∧ w'.ownsRow W.heap.size 3 1 (.slice A M.length c) M.length ((sIds M).map (Value.int .i64)) ∧ Below W.heap.size W w' := by
 refine (ids_any h.st.maps (by have := h.ids.1; omega)).mono ?_
 rintro e w' ⟨v, rfl, ho, _, hl⟩
 obtain ⟨A, c, rfl, _⟩ := own_slice ho
 exact ⟨A, c, rfl, ho, hl⟩
theorem ss_get [gm : Inhabited GMk] (h : ImIs W i N q Y M) (u : Nat) (hu : u < 8) : Calls Tryz.prog 123 #[.pointer (some ⟨i.mi, 0, none⟩), .int .i64 0, .int .i64 (u : Int)] W fun e w' => e = .returned (.tuple #[vSl zSl, .bool false]) ∧ Below W.heap.size W w' := by
 have hg : getS 8 zF M 0 (u : Int) = none := by
  unfold getS
  rw [if_pos (by omega)]
  unfold ofS
  rw [if_pos rfl]
  exact if_pos rfl
 have := get_any h.st.maps 0 (u : Int) (by omega)
 rw [hg] at this
 exact this
theorem own_ne_st {w : World} {base n sz g : Nat} {e t : TypeId} {v : Value} {xs : List Value} {cs : Array Value} (h : w.ownsRow base e sz v n xs) (hb : Blk w g t cs) (ht : e ≠ t) : ∀ b, some g = some b → v.ownBlock ≠ some b := by
 intro b e0 hk
 injection e0 with e0
 subst e0
 obtain ⟨cs2, h2⟩ := own_obj h hk
 exact blk_ne_tyD h2 hb ht rfl
theorem own_step {w : World} {B : Nat} {v : Value} {n : Nat} {xs : List Value} (h : W.ownsRow B 3 1 v n xs) (hb : Below W.heap.size W w) : w.ownsRow B 3 1 v n xs := own_belowR h hb

set_option maxRecDepth 100000 in
set_option maxHeartbeats 4000000 in
theorem im_stat [gm : Inhabited GMk] (h : ImIs W i N q Y M) : Calls Tryz.prog 60 #[.pointer (some ⟨i.x, 0, none⟩)] W fun e w' => ∃ A c, e = .returned (.tuple #[.agg (stV A M.length c).toArray, .int .i64 0]) ∧ w'.ownsRow W.heap.size 3 1 (.slice A M.length c) M.length ((sIds M).map (Value.int .i64)) ∧ Below W.heap.size W w' := by
 have HW := yH h
 have c0W := h.c0
 have hM : M.length ≤ 1000 := h.ids.1
 clear h
 go_enter Tryz.func60, Tryz.ntmps60
 go_upto_region 3 with (refine wpl_alloc rfl 68 (by rfl) Tryz.zeroValue68 10 (by rfl) ?_; intro w0 cs0 hk hc hg hz; have R0 := yH hk; have CR := yH hc; have LW := yH (bl_n (Below.refl W.heap.size W) hg); have H := yH (HW.out.below LW.out); have c0 := H.out.c0; clear hk hc hg hz; simp only [Act.put, yA, yB, yC])
 have L0 := yH (Below.refl w0.heap.size w0).drew
 have KK := yH (show ∀ W', Below w0.heap.size w0 W' → W'.rangeAt i.x 2 (geC geS) ∧ W'.cell? ⟨i.x, 11, none⟩ = some (.pointer (some ⟨i.si, 0, none⟩)) from fun W' hb => ⟨by have := (H.out.below hb).blk.part 2 (geC Y.geo) rfl; rwa [H.out.geo] at this, (H.out.below hb).c11⟩)
 refine wp_region_tr (fun _ w' => w'.rangeAt i.x 2 (geC geS) ∧ w'.cell? ⟨i.x, 11, none⟩ = some (.pointer (some ⟨i.si, 0, none⟩))) [9, 10, 12, 13, 18, 19, 21, 22]
  (preT [(0, 7), (1, 7), (2, 7), (3, 7), (4, 7), (5, 7), (6, 7), (7, 7), (8, 6), (11, 6), (14, 7), (15, 7), (16, 7), (17, 6)] (.fork 9 21 (.fork 10 21 (.fork 12 21 (.fork 13 21 (.fork 18 21 (.fork 19 21 (preT [(20, 7)] (.act 21 (.act 22 .done))) (.act 19 (preT [(20, 7)] (.act 22 .done)))) (.act 18 (.act 19 (preT [(20, 7)] (.act 22 .done))))) (.act 13 (.act 18 (.act 19 (preT [(20, 7)] (.act 22 .done)))))) (.act 12 (.act 13 (.act 18 (.act 19 (preT [(20, 7)] (.act 22 .done))))))) (.act 10 (.act 12 (.act 13 (.act 18 (.act 19 (preT [(20, 7)] (.act 22 .done)))))))) (.act 9 (.act 10 (.act 12 (.act 13 (.act 18 (.act 19 (preT [(20, 7)] (.act 22 .done))))))))))
  (fun (p : Nat × Option Addr × Nat × Nat) w' => StR4 w0 M p.2.1 p.2.2.1 p.2.2.2 w')
  (fun a p => ((((((((((((((((((((((a.put (some 4) (.pointer (some ⟨p.2.2.2, 0, none⟩))).put (some 20) (.pointer (some ⟨i.x, 0, none⟩))).put (some 21) (.pointer (some ⟨i.x, 0, none⟩))).put (some 22) (.pointer (some ⟨i.x, 2, none⟩))).put (some 23) (.pointer (some ⟨i.x, 2, none⟩))).put (some 24) (.agg (geC geS).toArray)).put (some 25) (.pointer (some ⟨i.x, 0, none⟩))).put (some 26) (.pointer (some ⟨i.x, 0, none⟩))).put (some 27) (.pointer (some ⟨i.x, 11, none⟩))).put (some 28) (.pointer (some ⟨i.si, 0, none⟩))).put (some 29) (.pointer (some ⟨i.xi, 0, none⟩))).put (some 30) (.int .i64 0)).put (some 31) (.pointer (some ⟨i.x, 0, none⟩))).put (some 32) (.slice (some ⟨p.1, 0, none⟩) 4 4)).put (some 33) (.int .i64 4)).put (some 34) (.pointer (some ⟨i.x, 0, none⟩))).put (some 35) (.pointer (some ⟨i.x, 0, none⟩))).put (some 36) (.pointer (some ⟨i.x, 11, none⟩))).put (some 37) (.pointer (some ⟨i.si, 0, none⟩))).put (some 38) (.pointer (some ⟨i.mi, 0, none⟩))).put (some 39) (.slice p.2.1 M.length p.2.2.1)).put (some 40) (.agg (stV p.2.1 M.length p.2.2.1).toArray)))
  (by kernel_rfl) rfl (by kernel_rfl) (by kernel_rfl) (by kernel_rfl) (KK.out _ L0.out) ?_ ?_
 ·refine qt_pre _ ?_
  simp only [yD, yE, yF, yG]
  (repeat (first | ((refine qs_row (by rfl) 66 (.tmp 23) (by with_reducible rfl) i.x 2 (by rfl) (geC geS) _ (fun j w' _ h2 h => h.1) Tryz.underlying66 rfl (geC_info _) ?_); simp only [Act.put, yA, yB, yC]) | (refine qs_mid (v := ?_) (by rfl) ?_ ?_; rotate_left 1; (· (intro j w' hj1 hj2 hS; go_simp; (try (simp only [↓IntWalk.iteOmega]; go_simp)); (try simp (disch := omega) only [IntWalk.i64_in]); try with_reducible rfl)); simp only [Act.put, yA, yB, yC]) | (refine qs_skip (by rfl) ?_; simp only [Act.put, yA, yB, yC])))
  refine qs_nil ?_
  intro _
  obtain ⟨u0, hu0⟩ : ∃ u, u = w0.drew := ⟨_, rfl⟩
  rw [← hu0] at L0 ⊢
  clear hu0
  refine qt_fork ?_ ?_
  ·simp only [yD, yE, yF, yG]
   go_wp2_with (go_at_call 119; refine (ss_index (H.out.below L0.out)).mono ?_; rintro e u1 ⟨rfl, hl⟩; have L1 := yH (below_chain L0.out hl); clear hl)
   refine ⟨KK.out _ L1.out, ?_⟩
   refine qt_fork ?_ ?_
   ·simp only [yD, yE, yF, yG]
    go_wp2_with (go_at_call 120; refine (ss_len (H.out.below L1.out)).mono ?_; rintro e u2 ⟨rfl, hl⟩; have L2 := yH (below_chain L1.out hl); clear hl)
    refine ⟨KK.out _ L2.out, ?_⟩
    refine qt_fork ?_ ?_
    ·simp only [yD, yE, yF, yG]
     go_wp2_with (go_at_call 115; refine (ss_used (H.out.below L2.out)).mono ?_; rintro e u3 ⟨g, rfl, hg, hl⟩; have L3 := yH (below_chain L2.out hl); have G3 := yH hg; clear hl hg)
     refine ⟨KK.out _ L3.out, ?_⟩
     refine qt_fork ?_ ?_
     ·simp only [yD, yE, yF, yG]
      go_wp2_with (go_at_call 121; refine (ss_free (G3.out)).mono ?_; rintro e u4 ⟨rfl, hl⟩; have L4 := yH (below_chain L3.out hl); have G4 := yH (G3.out.below hl G3.out.lt); clear hl)
      refine ⟨KK.out _ L4.out, ?_⟩
      refine qt_fork ?_ ?_
      ·simp only [yD, yE, yF, yG]
       go_wp2_with (go_at_call 107; refine (ss_maps (H.out.below L4.out)).mono ?_; rintro e u5 ⟨rfl, hl⟩; have L5 := yH (below_chain L4.out hl); have G5 := yH (G4.out.below hl G4.out.lt); clear hl)
       refine ⟨KK.out _ L5.out, ?_⟩
       refine qt_fork ?_ ?_
       ·simp only [yD, yE, yF, yG]
        go_wp2_with (go_at_call 108; refine (ss_ids (H.out.below L5.out)).mono ?_; rintro e u6 ⟨A, c, rfl, ho, hl⟩; have L6 := yH (below_chain L5.out hl); have O6 := yH (own_lo ho L5.out.size); have G6 := yH (G5.out.below hl G5.out.lt); clear hl ho)
        refine ⟨KK.out _ L6.out, ?_⟩
        refine qt_pre _ ?_
        simp only [yD, yE, yF, yG]
        (repeat (first | ((refine qs_mk (by rfl) 68 _ (by rfl) [(0, .agg (geC geS).toArray), (1, .int .i64 0), (3, .int .i64 4), (4, .slice A M.length c)] (by rfl) (stV A M.length c).toArray (built_stt A M.length c) ?_); simp only [Act.put, yA, yB, yC]) | (refine qs_mid (v := ?_) (by rfl) ?_ ?_; rotate_left 1; (· (intro j w' hj1 hj2 hS; go_simp; (try (simp only [↓IntWalk.iteOmega]; go_simp)); (try simp (disch := omega) only [IntWalk.i64_in]); try with_reducible rfl)); simp only [Act.put, yA, yB, yC]) | (refine qs_skip (by rfl) ?_; simp only [Act.put, yA, yB, yC])))
        refine qs_nil ?_
        intro _
        refine qt_act ?_
        simp only [yD, yE, yF, yG]
        go_wp2_with (refine wpl_alloc rfl 68 (by rfl) Tryz.zeroValue68 10 (by rfl) ?_; intro u7 cs hk hc hg hz; have hl := bl_n (Below.refl u6.heap.size u6) hg; have L7 := yH (below_chain L6.out hl); have S7 := yH hk; have CS := yH hc; have GE := yH (show w0.heap.size ≤ u6.heap.size from L6.out.size); have G7 := yH (G6.out.below hl G6.out.lt); have O7 := yH (own_step O6.out hl); clear hk hc hg hz hl)
        refine ⟨KK.out _ L7.out, ?_⟩
        refine qt_act ?_
        simp only [yD, yE, yF, yG]
        go_wp2_with (refine wpl_over rfl 68 (.tmp 4) (.tmp 40) (by rfl) u6.heap.size (stV A M.length c) (by rfl) (by rfl) _ cs S7.out (stV_info _ _ _) (by rw [CS.out]; rfl) (stV_one _ _ _) ?_; intro u8 hb hg hz; have S8 := yH hb; have T := yH hg; clear hb hg hz)
        have LF := yH (show Below w0.heap.size w0 u8 from bl_g L7.out T.out GE.out)
        have OF := yH (show u8.ownsRow w0.heap.size 3 1 (.slice A M.length c) M.length ((sIds M).map (Value.int .i64)) from own_keptR O7.out T.out (own_ne_st O7.out S7.out (by decide)))
        refine ⟨KK.out _ LF.out, ?_⟩
        exact qt_done ⟨rfl, g, A, c, u6.heap.size, rfl, ⟨S8.out, OF.out, LF.out, GE.out⟩⟩
       ·simp only [yD, yE, yF, yG]
        go_wp2_with (refine wpl_alloc rfl 68 (by rfl) Tryz.zeroValue68 10 (by rfl) ?_; intro u6 cs hk hc hg hz; have hl := bl_n (Below.refl u5.heap.size u5) hg; have L6 := yH (below_chain L5.out hl); have S6 := yH hk; have CS := yH hc; have GE := yH (show w0.heap.size ≤ u5.heap.size from L5.out.size); have G6 := yH (G5.out.below hl G5.out.lt); clear hk hc hg hz hl)
        refine ⟨KK.out _ L6.out, ?_⟩
        refine qt_act ?_
        simp only [yD, yE, yF, yG]
        go_wp2_with (go_at_call 108; refine (ss_ids (H.out.below L6.out)).mono ?_; rintro e u7 ⟨A, c, rfl, ho, hl⟩; have L7 := yH (below_chain L6.out hl); have O7 := yH (own_lo ho L6.out.size); have G7 := yH (G6.out.below hl G6.out.lt); have S7 := yH (S6.out.below hl S6.out.lt); clear hl ho)
        refine ⟨KK.out _ L7.out, ?_⟩
        refine qt_pre _ ?_
        simp only [yD, yE, yF, yG]
        (repeat (first | ((refine qs_mk (by rfl) 68 _ (by rfl) [(0, .agg (geC geS).toArray), (1, .int .i64 0), (3, .int .i64 4), (4, .slice A M.length c)] (by rfl) (stV A M.length c).toArray (built_stt A M.length c) ?_); simp only [Act.put, yA, yB, yC]) | (refine qs_mid (v := ?_) (by rfl) ?_ ?_; rotate_left 1; (· (intro j w' hj1 hj2 hS; go_simp; (try (simp only [↓IntWalk.iteOmega]; go_simp)); (try simp (disch := omega) only [IntWalk.i64_in]); try with_reducible rfl)); simp only [Act.put, yA, yB, yC]) | (refine qs_skip (by rfl) ?_; simp only [Act.put, yA, yB, yC])))
        refine qs_nil ?_
        intro _
        refine qt_act ?_
        simp only [yD, yE, yF, yG]
        go_wp2_with (refine wpl_over rfl 68 (.tmp 4) (.tmp 40) (by rfl) u5.heap.size (stV A M.length c) (by rfl) (by rfl) _ cs S7.out (stV_info _ _ _) (by rw [CS.out]; rfl) (stV_one _ _ _) ?_; intro u8 hb hg hz; have S8 := yH hb; have T := yH hg; clear hb hg hz)
        have LF := yH (show Below w0.heap.size w0 u8 from bl_g L7.out T.out GE.out)
        have OF := yH (show u8.ownsRow w0.heap.size 3 1 (.slice A M.length c) M.length ((sIds M).map (Value.int .i64)) from own_keptR O7.out T.out (own_ne_st O7.out S7.out (by decide)))
        refine ⟨KK.out _ LF.out, ?_⟩
        exact qt_done ⟨rfl, g, A, c, u5.heap.size, rfl, ⟨S8.out, OF.out, LF.out, GE.out⟩⟩
      ·simp only [yD, yE, yF, yG]
       go_wp2_with (refine wpl_alloc rfl 68 (by rfl) Tryz.zeroValue68 10 (by rfl) ?_; intro u5 cs hk hc hg hz; have hl := bl_n (Below.refl u4.heap.size u4) hg; have L5 := yH (below_chain L4.out hl); have S5 := yH hk; have CS := yH hc; have GE := yH (show w0.heap.size ≤ u4.heap.size from L4.out.size); have G5 := yH (G4.out.below hl G4.out.lt); clear hk hc hg hz hl)
       refine ⟨KK.out _ L5.out, ?_⟩
       refine qt_act ?_
       simp only [yD, yE, yF, yG]
       go_wp2_with (go_at_call 107; refine (ss_maps (H.out.below L5.out)).mono ?_; rintro e u6 ⟨rfl, hl⟩; have L6 := yH (below_chain L5.out hl); have G6 := yH (G5.out.below hl G5.out.lt); have S6 := yH (S5.out.below hl S5.out.lt); clear hl)
       refine ⟨KK.out _ L6.out, ?_⟩
       refine qt_act ?_
       simp only [yD, yE, yF, yG]
       go_wp2_with (go_at_call 108; refine (ss_ids (H.out.below L6.out)).mono ?_; rintro e u7 ⟨A, c, rfl, ho, hl⟩; have L7 := yH (below_chain L6.out hl); have O7 := yH (own_lo ho L6.out.size); have G7 := yH (G6.out.below hl G6.out.lt); have S7 := yH (S6.out.below hl S6.out.lt); clear hl ho)
       refine ⟨KK.out _ L7.out, ?_⟩
       refine qt_pre _ ?_
       simp only [yD, yE, yF, yG]
       (repeat (first | ((refine qs_mk (by rfl) 68 _ (by rfl) [(0, .agg (geC geS).toArray), (1, .int .i64 0), (3, .int .i64 4), (4, .slice A M.length c)] (by rfl) (stV A M.length c).toArray (built_stt A M.length c) ?_); simp only [Act.put, yA, yB, yC]) | (refine qs_mid (v := ?_) (by rfl) ?_ ?_; rotate_left 1; (· (intro j w' hj1 hj2 hS; go_simp; (try (simp only [↓IntWalk.iteOmega]; go_simp)); (try simp (disch := omega) only [IntWalk.i64_in]); try with_reducible rfl)); simp only [Act.put, yA, yB, yC]) | (refine qs_skip (by rfl) ?_; simp only [Act.put, yA, yB, yC])))
       refine qs_nil ?_
       intro _
       refine qt_act ?_
       simp only [yD, yE, yF, yG]
       go_wp2_with (refine wpl_over rfl 68 (.tmp 4) (.tmp 40) (by rfl) u4.heap.size (stV A M.length c) (by rfl) (by rfl) _ cs S7.out (stV_info _ _ _) (by rw [CS.out]; rfl) (stV_one _ _ _) ?_; intro u8 hb hg hz; have S8 := yH hb; have T := yH hg; clear hb hg hz)
       have LF := yH (show Below w0.heap.size w0 u8 from bl_g L7.out T.out GE.out)
       have OF := yH (show u8.ownsRow w0.heap.size 3 1 (.slice A M.length c) M.length ((sIds M).map (Value.int .i64)) from own_keptR O7.out T.out (own_ne_st O7.out S7.out (by decide)))
       refine ⟨KK.out _ LF.out, ?_⟩
       exact qt_done ⟨rfl, g, A, c, u4.heap.size, rfl, ⟨S8.out, OF.out, LF.out, GE.out⟩⟩
     ·simp only [yD, yE, yF, yG]
      go_wp2_with (refine wpl_alloc rfl 68 (by rfl) Tryz.zeroValue68 10 (by rfl) ?_; intro u4 cs hk hc hg hz; have hl := bl_n (Below.refl u3.heap.size u3) hg; have L4 := yH (below_chain L3.out hl); have S4 := yH hk; have CS := yH hc; have GE := yH (show w0.heap.size ≤ u3.heap.size from L3.out.size); have G4 := yH (G3.out.below hl G3.out.lt); clear hk hc hg hz hl)
      refine ⟨KK.out _ L4.out, ?_⟩
      refine qt_act ?_
      simp only [yD, yE, yF, yG]
      go_wp2_with (go_at_call 121; refine (ss_free (G4.out)).mono ?_; rintro e u5 ⟨rfl, hl⟩; have L5 := yH (below_chain L4.out hl); have G5 := yH (G4.out.below hl G4.out.lt); have S5 := yH (S4.out.below hl S4.out.lt); clear hl)
      refine ⟨KK.out _ L5.out, ?_⟩
      refine qt_act ?_
      simp only [yD, yE, yF, yG]
      go_wp2_with (go_at_call 107; refine (ss_maps (H.out.below L5.out)).mono ?_; rintro e u6 ⟨rfl, hl⟩; have L6 := yH (below_chain L5.out hl); have G6 := yH (G5.out.below hl G5.out.lt); have S6 := yH (S5.out.below hl S5.out.lt); clear hl)
      refine ⟨KK.out _ L6.out, ?_⟩
      refine qt_act ?_
      simp only [yD, yE, yF, yG]
      go_wp2_with (go_at_call 108; refine (ss_ids (H.out.below L6.out)).mono ?_; rintro e u7 ⟨A, c, rfl, ho, hl⟩; have L7 := yH (below_chain L6.out hl); have O7 := yH (own_lo ho L6.out.size); have G7 := yH (G6.out.below hl G6.out.lt); have S7 := yH (S6.out.below hl S6.out.lt); clear hl ho)
      refine ⟨KK.out _ L7.out, ?_⟩
      refine qt_pre _ ?_
      simp only [yD, yE, yF, yG]
      (repeat (first | ((refine qs_mk (by rfl) 68 _ (by rfl) [(0, .agg (geC geS).toArray), (1, .int .i64 0), (3, .int .i64 4), (4, .slice A M.length c)] (by rfl) (stV A M.length c).toArray (built_stt A M.length c) ?_); simp only [Act.put, yA, yB, yC]) | (refine qs_mid (v := ?_) (by rfl) ?_ ?_; rotate_left 1; (· (intro j w' hj1 hj2 hS; go_simp; (try (simp only [↓IntWalk.iteOmega]; go_simp)); (try simp (disch := omega) only [IntWalk.i64_in]); try with_reducible rfl)); simp only [Act.put, yA, yB, yC]) | (refine qs_skip (by rfl) ?_; simp only [Act.put, yA, yB, yC])))
      refine qs_nil ?_
      intro _
      refine qt_act ?_
      simp only [yD, yE, yF, yG]
      go_wp2_with (refine wpl_over rfl 68 (.tmp 4) (.tmp 40) (by rfl) u3.heap.size (stV A M.length c) (by rfl) (by rfl) _ cs S7.out (stV_info _ _ _) (by rw [CS.out]; rfl) (stV_one _ _ _) ?_; intro u8 hb hg hz; have S8 := yH hb; have T := yH hg; clear hb hg hz)
      have LF := yH (show Below w0.heap.size w0 u8 from bl_g L7.out T.out GE.out)
      have OF := yH (show u8.ownsRow w0.heap.size 3 1 (.slice A M.length c) M.length ((sIds M).map (Value.int .i64)) from own_keptR O7.out T.out (own_ne_st O7.out S7.out (by decide)))
      refine ⟨KK.out _ LF.out, ?_⟩
      exact qt_done ⟨rfl, g, A, c, u3.heap.size, rfl, ⟨S8.out, OF.out, LF.out, GE.out⟩⟩
    ·simp only [yD, yE, yF, yG]
     go_wp2_with (refine wpl_alloc rfl 68 (by rfl) Tryz.zeroValue68 10 (by rfl) ?_; intro u3 cs hk hc hg hz; have hl := bl_n (Below.refl u2.heap.size u2) hg; have L3 := yH (below_chain L2.out hl); have S3 := yH hk; have CS := yH hc; have GE := yH (show w0.heap.size ≤ u2.heap.size from L2.out.size); clear hk hc hg hz hl)
     refine ⟨KK.out _ L3.out, ?_⟩
     refine qt_act ?_
     simp only [yD, yE, yF, yG]
     go_wp2_with (go_at_call 115; refine (ss_used (H.out.below L3.out)).mono ?_; rintro e u4 ⟨g, rfl, hg, hl⟩; have L4 := yH (below_chain L3.out hl); have G4 := yH hg; have S4 := yH (S3.out.below hl S3.out.lt); clear hl hg)
     refine ⟨KK.out _ L4.out, ?_⟩
     refine qt_act ?_
     simp only [yD, yE, yF, yG]
     go_wp2_with (go_at_call 121; refine (ss_free (G4.out)).mono ?_; rintro e u5 ⟨rfl, hl⟩; have L5 := yH (below_chain L4.out hl); have G5 := yH (G4.out.below hl G4.out.lt); have S5 := yH (S4.out.below hl S4.out.lt); clear hl)
     refine ⟨KK.out _ L5.out, ?_⟩
     refine qt_act ?_
     simp only [yD, yE, yF, yG]
     go_wp2_with (go_at_call 107; refine (ss_maps (H.out.below L5.out)).mono ?_; rintro e u6 ⟨rfl, hl⟩; have L6 := yH (below_chain L5.out hl); have G6 := yH (G5.out.below hl G5.out.lt); have S6 := yH (S5.out.below hl S5.out.lt); clear hl)
     refine ⟨KK.out _ L6.out, ?_⟩
     refine qt_act ?_
     simp only [yD, yE, yF, yG]
     go_wp2_with (go_at_call 108; refine (ss_ids (H.out.below L6.out)).mono ?_; rintro e u7 ⟨A, c, rfl, ho, hl⟩; have L7 := yH (below_chain L6.out hl); have O7 := yH (own_lo ho L6.out.size); have G7 := yH (G6.out.below hl G6.out.lt); have S7 := yH (S6.out.below hl S6.out.lt); clear hl ho)
     refine ⟨KK.out _ L7.out, ?_⟩
     refine qt_pre _ ?_
     simp only [yD, yE, yF, yG]
     (repeat (first | ((refine qs_mk (by rfl) 68 _ (by rfl) [(0, .agg (geC geS).toArray), (1, .int .i64 0), (3, .int .i64 4), (4, .slice A M.length c)] (by rfl) (stV A M.length c).toArray (built_stt A M.length c) ?_); simp only [Act.put, yA, yB, yC]) | (refine qs_mid (v := ?_) (by rfl) ?_ ?_; rotate_left 1; (· (intro j w' hj1 hj2 hS; go_simp; (try (simp only [↓IntWalk.iteOmega]; go_simp)); (try simp (disch := omega) only [IntWalk.i64_in]); try with_reducible rfl)); simp only [Act.put, yA, yB, yC]) | (refine qs_skip (by rfl) ?_; simp only [Act.put, yA, yB, yC])))
     refine qs_nil ?_
     intro _
     refine qt_act ?_
     simp only [yD, yE, yF, yG]
     go_wp2_with (refine wpl_over rfl 68 (.tmp 4) (.tmp 40) (by rfl) u2.heap.size (stV A M.length c) (by rfl) (by rfl) _ cs S7.out (stV_info _ _ _) (by rw [CS.out]; rfl) (stV_one _ _ _) ?_; intro u8 hb hg hz; have S8 := yH hb; have T := yH hg; clear hb hg hz)
     have LF := yH (show Below w0.heap.size w0 u8 from bl_g L7.out T.out GE.out)
     have OF := yH (show u8.ownsRow w0.heap.size 3 1 (.slice A M.length c) M.length ((sIds M).map (Value.int .i64)) from own_keptR O7.out T.out (own_ne_st O7.out S7.out (by decide)))
     refine ⟨KK.out _ LF.out, ?_⟩
     exact qt_done ⟨rfl, g, A, c, u2.heap.size, rfl, ⟨S8.out, OF.out, LF.out, GE.out⟩⟩
   ·simp only [yD, yE, yF, yG]
    go_wp2_with (refine wpl_alloc rfl 68 (by rfl) Tryz.zeroValue68 10 (by rfl) ?_; intro u2 cs hk hc hg hz; have hl := bl_n (Below.refl u1.heap.size u1) hg; have L2 := yH (below_chain L1.out hl); have S2 := yH hk; have CS := yH hc; have GE := yH (show w0.heap.size ≤ u1.heap.size from L1.out.size); clear hk hc hg hz hl)
    refine ⟨KK.out _ L2.out, ?_⟩
    refine qt_act ?_
    simp only [yD, yE, yF, yG]
    go_wp2_with (go_at_call 120; refine (ss_len (H.out.below L2.out)).mono ?_; rintro e u3 ⟨rfl, hl⟩; have L3 := yH (below_chain L2.out hl); have S3 := yH (S2.out.below hl S2.out.lt); clear hl)
    refine ⟨KK.out _ L3.out, ?_⟩
    refine qt_act ?_
    simp only [yD, yE, yF, yG]
    go_wp2_with (go_at_call 115; refine (ss_used (H.out.below L3.out)).mono ?_; rintro e u4 ⟨g, rfl, hg, hl⟩; have L4 := yH (below_chain L3.out hl); have G4 := yH hg; have S4 := yH (S3.out.below hl S3.out.lt); clear hl hg)
    refine ⟨KK.out _ L4.out, ?_⟩
    refine qt_act ?_
    simp only [yD, yE, yF, yG]
    go_wp2_with (go_at_call 121; refine (ss_free (G4.out)).mono ?_; rintro e u5 ⟨rfl, hl⟩; have L5 := yH (below_chain L4.out hl); have G5 := yH (G4.out.below hl G4.out.lt); have S5 := yH (S4.out.below hl S4.out.lt); clear hl)
    refine ⟨KK.out _ L5.out, ?_⟩
    refine qt_act ?_
    simp only [yD, yE, yF, yG]
    go_wp2_with (go_at_call 107; refine (ss_maps (H.out.below L5.out)).mono ?_; rintro e u6 ⟨rfl, hl⟩; have L6 := yH (below_chain L5.out hl); have G6 := yH (G5.out.below hl G5.out.lt); have S6 := yH (S5.out.below hl S5.out.lt); clear hl)
    refine ⟨KK.out _ L6.out, ?_⟩
    refine qt_act ?_
    simp only [yD, yE, yF, yG]
    go_wp2_with (go_at_call 108; refine (ss_ids (H.out.below L6.out)).mono ?_; rintro e u7 ⟨A, c, rfl, ho, hl⟩; have L7 := yH (below_chain L6.out hl); have O7 := yH (own_lo ho L6.out.size); have G7 := yH (G6.out.below hl G6.out.lt); have S7 := yH (S6.out.below hl S6.out.lt); clear hl ho)
    refine ⟨KK.out _ L7.out, ?_⟩
    refine qt_pre _ ?_
    simp only [yD, yE, yF, yG]
    (repeat (first | ((refine qs_mk (by rfl) 68 _ (by rfl) [(0, .agg (geC geS).toArray), (1, .int .i64 0), (3, .int .i64 4), (4, .slice A M.length c)] (by rfl) (stV A M.length c).toArray (built_stt A M.length c) ?_); simp only [Act.put, yA, yB, yC]) | (refine qs_mid (v := ?_) (by rfl) ?_ ?_; rotate_left 1; (· (intro j w' hj1 hj2 hS; go_simp; (try (simp only [↓IntWalk.iteOmega]; go_simp)); (try simp (disch := omega) only [IntWalk.i64_in]); try with_reducible rfl)); simp only [Act.put, yA, yB, yC]) | (refine qs_skip (by rfl) ?_; simp only [Act.put, yA, yB, yC])))
    refine qs_nil ?_
    intro _
    refine qt_act ?_
    simp only [yD, yE, yF, yG]
    go_wp2_with (refine wpl_over rfl 68 (.tmp 4) (.tmp 40) (by rfl) u1.heap.size (stV A M.length c) (by rfl) (by rfl) _ cs S7.out (stV_info _ _ _) (by rw [CS.out]; rfl) (stV_one _ _ _) ?_; intro u8 hb hg hz; have S8 := yH hb; have T := yH hg; clear hb hg hz)
    have LF := yH (show Below w0.heap.size w0 u8 from bl_g L7.out T.out GE.out)
    have OF := yH (show u8.ownsRow w0.heap.size 3 1 (.slice A M.length c) M.length ((sIds M).map (Value.int .i64)) from own_keptR O7.out T.out (own_ne_st O7.out S7.out (by decide)))
    refine ⟨KK.out _ LF.out, ?_⟩
    exact qt_done ⟨rfl, g, A, c, u1.heap.size, rfl, ⟨S8.out, OF.out, LF.out, GE.out⟩⟩
  ·simp only [yD, yE, yF, yG]
   go_wp2_with (refine wpl_alloc rfl 68 (by rfl) Tryz.zeroValue68 10 (by rfl) ?_; intro u1 cs hk hc hg hz; have hl := bl_n (Below.refl u0.heap.size u0) hg; have L1 := yH (below_chain L0.out hl); have S1 := yH hk; have CS := yH hc; have GE := yH (show w0.heap.size ≤ u0.heap.size from L0.out.size); clear hk hc hg hz hl)
   refine ⟨KK.out _ L1.out, ?_⟩
   refine qt_act ?_
   simp only [yD, yE, yF, yG]
   go_wp2_with (go_at_call 119; refine (ss_index (H.out.below L1.out)).mono ?_; rintro e u2 ⟨rfl, hl⟩; have L2 := yH (below_chain L1.out hl); have S2 := yH (S1.out.below hl S1.out.lt); clear hl)
   refine ⟨KK.out _ L2.out, ?_⟩
   refine qt_act ?_
   simp only [yD, yE, yF, yG]
   go_wp2_with (go_at_call 120; refine (ss_len (H.out.below L2.out)).mono ?_; rintro e u3 ⟨rfl, hl⟩; have L3 := yH (below_chain L2.out hl); have S3 := yH (S2.out.below hl S2.out.lt); clear hl)
   refine ⟨KK.out _ L3.out, ?_⟩
   refine qt_act ?_
   simp only [yD, yE, yF, yG]
   go_wp2_with (go_at_call 115; refine (ss_used (H.out.below L3.out)).mono ?_; rintro e u4 ⟨g, rfl, hg, hl⟩; have L4 := yH (below_chain L3.out hl); have G4 := yH hg; have S4 := yH (S3.out.below hl S3.out.lt); clear hl hg)
   refine ⟨KK.out _ L4.out, ?_⟩
   refine qt_act ?_
   simp only [yD, yE, yF, yG]
   go_wp2_with (go_at_call 121; refine (ss_free (G4.out)).mono ?_; rintro e u5 ⟨rfl, hl⟩; have L5 := yH (below_chain L4.out hl); have G5 := yH (G4.out.below hl G4.out.lt); have S5 := yH (S4.out.below hl S4.out.lt); clear hl)
   refine ⟨KK.out _ L5.out, ?_⟩
   refine qt_act ?_
   simp only [yD, yE, yF, yG]
   go_wp2_with (go_at_call 107; refine (ss_maps (H.out.below L5.out)).mono ?_; rintro e u6 ⟨rfl, hl⟩; have L6 := yH (below_chain L5.out hl); have G6 := yH (G5.out.below hl G5.out.lt); have S6 := yH (S5.out.below hl S5.out.lt); clear hl)
   refine ⟨KK.out _ L6.out, ?_⟩
   refine qt_act ?_
   simp only [yD, yE, yF, yG]
   go_wp2_with (go_at_call 108; refine (ss_ids (H.out.below L6.out)).mono ?_; rintro e u7 ⟨A, c, rfl, ho, hl⟩; have L7 := yH (below_chain L6.out hl); have O7 := yH (own_lo ho L6.out.size); have G7 := yH (G6.out.below hl G6.out.lt); have S7 := yH (S6.out.below hl S6.out.lt); clear hl ho)
   refine ⟨KK.out _ L7.out, ?_⟩
   refine qt_pre _ ?_
   simp only [yD, yE, yF, yG]
   (repeat (first | ((refine qs_mk (by rfl) 68 _ (by rfl) [(0, .agg (geC geS).toArray), (1, .int .i64 0), (3, .int .i64 4), (4, .slice A M.length c)] (by rfl) (stV A M.length c).toArray (built_stt A M.length c) ?_); simp only [Act.put, yA, yB, yC]) | (refine qs_mid (v := ?_) (by rfl) ?_ ?_; rotate_left 1; (· (intro j w' hj1 hj2 hS; go_simp; (try (simp only [↓IntWalk.iteOmega]; go_simp)); (try simp (disch := omega) only [IntWalk.i64_in]); try with_reducible rfl)); simp only [Act.put, yA, yB, yC]) | (refine qs_skip (by rfl) ?_; simp only [Act.put, yA, yB, yC])))
   refine qs_nil ?_
   intro _
   refine qt_act ?_
   simp only [yD, yE, yF, yG]
   go_wp2_with (refine wpl_over rfl 68 (.tmp 4) (.tmp 40) (by rfl) u0.heap.size (stV A M.length c) (by rfl) (by rfl) _ cs S7.out (stV_info _ _ _) (by rw [CS.out]; rfl) (stV_one _ _ _) ?_; intro u8 hb hg hz; have S8 := yH hb; have T := yH hg; clear hb hg hz)
   have LF := yH (show Below w0.heap.size w0 u8 from bl_g L7.out T.out GE.out)
   have OF := yH (show u8.ownsRow w0.heap.size 3 1 (.slice A M.length c) M.length ((sIds M).map (Value.int .i64)) from own_keptR O7.out T.out (own_ne_st O7.out S7.out (by decide)))
   refine ⟨KK.out _ LF.out, ?_⟩
   exact qt_done ⟨rfl, g, A, c, u0.heap.size, rfl, ⟨S8.out, OF.out, LF.out, GE.out⟩⟩
 ·rintro ⟨g, A, c, s⟩ w3 hR
  have S3 := yH hR.blk
  have O3 := yH hR.ids
  have L3 := yH (show Below w0.heap.size w0 w3 from hR.low)
  have GE := yH (show w0.heap.size ≤ s from hR.ge)
  have I3 := yH (H.out.below L3.out)
  have R3 := yH (R0.out.below L3.out R0.out.lt)
  have c11 := I3.out.c11
  clear hR KK L0 H R0 c0 c0W
  simp only [Act.put, yA, yB, yC]
  go_wp2_with (go_at_call 122; refine (im_places I3.out.st).mono ?_; rintro e w4 ⟨rfl, hl⟩; have L4 := yH hl; clear hl)
  have I4 := yH (I3.out.below L4.out)
  have c11 := I4.out.c11
  have v4 : w4.cell? ⟨i.x, 2, none⟩ = some (.int .i64 64) := by have := I4.out.vir; rwa [I4.out.geo] at this
  go_loopg [47] 0 (fun (k : Nat) iv wk => iv = .int .i64 0 ∧ wk = w4)
  ·exact ⟨rfl, rfl⟩
  ·obtain ⟨rfl, rfl⟩ := hrel
   go_wp2_with fail
   clear c11 v4
   go_loopg [65] 8 (fun (k : Nat) iv wk => ∃ u : Nat, iv = .int .i64 (u : Int) ∧ u + k = 8 ∧ Below wr.heap.size wr wk)
   case atStart => exact ⟨0, rfl, by omega, Below.refl _ _⟩
   case round =>
    obtain ⟨u, rfl, hu, hb⟩ := hrel
    have L5 := yH hb
    clear hb
    by_cases hu8 : u < 8
    ·have hU : (u : Int) < 8 := by omega
     have I5 := yH (I4.out.below L5.out)
     have c11 := I5.out.c11
     go_wp2_with (first
      | (go_at_call 107; refine (st_maps I5.out.st).mono ?_; rintro e w5 ⟨rfl, rfl⟩)
      | (go_at_call 123; refine (ss_get I5.out u hu8).mono ?_; rintro e w6 ⟨rfl, hl⟩; have L6 := yH (below_chain L5.out hl); clear hl)
      | (refine wpl_alloc rfl 181 (by rfl) Tryz.zeroValue181 34 (by rfl) ?_; intro w7 cs hk hc hg hz; have B7 := yH hk; have C7 := yH hc; have L7 := yH (bl_n L6.out hg); clear hk hc hg hz; simp only [Act.put, yA, yB, yC])
      | (refine wpl_over rfl 181 (.tmp 8) (.tmp 76) (by rfl) w6.heap.size (slC zSl) (by rfl) (by rfl) _ cs B7.out (slC_info _) (by rw [C7.out]; rfl) (slC_one _) ?_; intro w8 hb hg hz; have L8 := yH (bl_g L7.out hg L6.out.size); clear hb hg hz; simp only [Act.put, yA, yB, yC]))
     go_roundg (gk - 1)
     case measure => omega
     case rel => exact ⟨u + 1, by go_num, by omega, L8.out⟩
    ·have hU : ¬ (u : Int) < 8 := by omega
     obtain rfl : u = 8 := by omega
     have L35 := yH (below_chain L4.out L5.out)
     have S9 := yH (S3.out.below L35.out S3.out.lt)
     have R9 := yH (R3.out.below L35.out R3.out.lt)
     have O9 := yH (own_step O3.out L35.out)
     have L9 := yH (show Below W.heap.size W wr from below_chain LW.out (below_chain L3.out L35.out))
     have hge := LW.out.size
     clear L5 L4 L3 S3 R3 O3 I3 I4
     go_wp2_with (first
      | (refine wpl_load_blk rfl 68 (.tmp 4) (by rfl) s (by rfl) 68 _ S9.out _ Tryz.underlying68 rfl _ (stV_info _ _ _) rfl ?_; simp only [Act.put, yA, yB, yC])
      | (refine wpl_over rfl 68 (.tmp 2) (.tmp 84) (by rfl) W.heap.size (stV A M.length c) (by rfl) (by rfl) _ cs0 R9.out (stV_info _ _ _) (by rw [CR.out]; rfl) (stV_one _ _ _) ?_; intro w10 hb hg hz; have R10 := yH hb; have T10 := yH hg; clear hb hg hz; simp only [Act.put, yA, yB, yC]))
     refine bodyPost_ret (results_blk_tmp rfl _ W.heap.size rfl _ _ R10.out _ Tryz.underlying68 rfl 10 (stV_info A M.length c) rfl) rfl ?_
     exact ⟨A, c, rfl, own_lo (own_keptR O9.out T10.out (own_ne_st O9.out R9.out (by decide))) hge, bl_g L9.out T10.out (Nat.le_refl _)⟩
end
end Go.Proofs.YtffalfacakdhkaaGreatDoor
