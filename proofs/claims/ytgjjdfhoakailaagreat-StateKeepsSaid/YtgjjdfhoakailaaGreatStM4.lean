/-
  maps: Set: walked.
-/
import Derived.Test.YtgjjdfhoakailaaGreatStM3
namespace Go.Proofs.YtgjjdfhoakailaaGreat
open Go.RowKit Go.Maps
set_option linter.unusedVariables false
set_option linter.unusedSimpArgs false

theorem slC_info (s : Sl) : (Tryz.prog.info? 54).map (·.size) = some (slC s).length := by rw [slC_len]; exact infoSl
theorem keyL_info (K : Key) : (Tryz.prog.info? 50).map (·.size) = some (keyL K).length := by rw [keyL_len]; kernel_rfl
theorem MapsIs.set {w w' : World} {mi bs n : Nat} {f g : MpF} {M : SnM} (h : MapsIs w mi bs n f M) (hb : Blk w' mi 123 (mapsC n g bs).toArray) (hg : w.grownBy w' (some mi)) : MapsIs w' mi bs n g M :=
  ⟨hb, h.map.kept hg (by have := blk_ne_map h.map h.blk; simp; omega), fun p hp => (h.each p hp).grown hg (by have := blk_ne_ty (h.each p hp) h.blk (by decide); simp; exact this), h.low, h.high⟩
def setE (n : Nat) (unit : Int) (s : Sl) : Int := if 0 ≤ unit ∧ unit < n ∧ 0 ≤ s.off ∧ s.off < 16 ∧ 1 ≤ s.mask ∧ s.mask ≤ 255 then 0 else 2
def setF (n : Nat) (f : MpF) (unit : Int) (s : Sl) : MpF := if setE n unit s = 0 then upd f unit.toNat s else f
def SetPost (mi bs n : Nat) (f : MpF) (M : SnM) (unit : Int) (s : Sl) (w : World) (e : Ending) (w' : World) : Prop := e = .returned (.int .i64 (setE n unit s)) ∧ MapsIs w' mi bs n (setF n f unit s) M ∧ Tch [mi] w w'
set_option maxHeartbeats 1000000 in
theorem set_any {w : World} {mi bs n : Nat} {f : MpF} {M : SnM} (h : MapsIs w mi bs n f M) (unit : Int) (s : Sl) :
    Calls Tryz.prog 83 #[.pointer (some ⟨mi, 0, none⟩), .int .i64 unit, .agg (slC s).toArray] w (SetPost mi bs n f M unit s w) := by
  have H := Lib.hid h
  have hn := h.high
  clear h
  go_enter Tryz.func83, Tryz.ntmps83
  go_upto_region 1 with ((with_reducible show wpList _ _ _ (_ :: _) _ _); refine wpl_box rfl 54 (.tmp 2) rfl _ rfl ?_; intro w1 hk hg hz; have K := Lib.hid hk; have G := Lib.hid hg; clear hk hg hz)
  have H1 := Lib.hid (H.out.grown G.out)
  have c0 := H1.out.n_cell
  have L1 := Lib.hid (bl_n (Below.refl _ _) G.out)
  have co := K.out.cell (i := 32) (by rw [List.getElem?_toArray]; exact slC_off s)
  have cm := K.out.cell (i := 33) (by rw [List.getElem?_toArray]; exact slC_mask s)
  by_cases h1 : unit < 0
  · have HE := Lib.hid (show setE n unit s = 2 from if_neg (by omega))
    go_wp2_with (go_at_call 96; refine (known_any H1.out).mono ?_; rintro e w2 ⟨rfl, rfl⟩)
    go_ret
    unfold SetPost setF
    rw [HE.out, if_neg (by decide)]
    exact ⟨rfl, H1.out, Tch.below L1.out⟩
  by_cases h2 : (n : Int) ≤ unit
  · have HE := Lib.hid (show setE n unit s = 2 from if_neg (by omega))
    go_wp2_with (go_at_call 96; refine (known_any H1.out).mono ?_; rintro e w2 ⟨rfl, rfl⟩)
    go_ret
    unfold SetPost setF
    rw [HE.out, if_neg (by decide)]
    exact ⟨rfl, H1.out, Tch.below L1.out⟩
  by_cases h3 : s.off < 0
  · have HE := Lib.hid (show setE n unit s = 2 from if_neg (by omega))
    go_wp2_with (go_at_call 96; refine (known_any H1.out).mono ?_; rintro e w2 ⟨rfl, rfl⟩)
    go_ret
    unfold SetPost setF
    rw [HE.out, if_neg (by decide)]
    exact ⟨rfl, H1.out, Tch.below L1.out⟩
  by_cases h4 : 16 ≤ s.off
  · have HE := Lib.hid (show setE n unit s = 2 from if_neg (by omega))
    go_wp2_with (go_at_call 96; refine (known_any H1.out).mono ?_; rintro e w2 ⟨rfl, rfl⟩)
    go_ret
    unfold SetPost setF
    rw [HE.out, if_neg (by decide)]
    exact ⟨rfl, H1.out, Tch.below L1.out⟩
  by_cases h5 : s.mask < 1
  · have HE := Lib.hid (show setE n unit s = 2 from if_neg (by omega))
    go_wp2_with (go_at_call 96; refine (known_any H1.out).mono ?_; rintro e w2 ⟨rfl, rfl⟩)
    go_ret
    unfold SetPost setF
    rw [HE.out, if_neg (by decide)]
    exact ⟨rfl, H1.out, Tch.below L1.out⟩
  by_cases h6 : 255 < s.mask
  · have HE := Lib.hid (show setE n unit s = 2 from if_neg (by omega))
    go_wp2_with (go_at_call 96; refine (known_any H1.out).mono ?_; rintro e w2 ⟨rfl, rfl⟩)
    go_ret
    unfold SetPost setF
    rw [HE.out, if_neg (by decide)]
    exact ⟨rfl, H1.out, Tch.below L1.out⟩
  have HE := Lib.hid (show setE n unit s = 0 from if_pos (by omega))
  obtain ⟨u, rfl⟩ : ∃ u : Nat, unit = (u : Int) := ⟨unit.toNat, by omega⟩
  have hu : u < 512 := by omega
  have h2' : ¬ n ≤ u := by omega
  go_wp2_with (go_at_call 96; refine (known_any H1.out).mono ?_; rintro e w2 ⟨rfl, rfl⟩)
  refine wp_region_qs (fun j w' => j ≤ 0 → w'.rangeAt w.heap.size 0 (slC s)) [(0, some 0), (1, some 0), (2, some 0), (3, some 1), (4, some 1), (5, some 0), (6, none)] (by kernel_rfl) (by kernel_rfl) (by kernel_rfl) (by kernel_rfl) (by kernel_rfl) (fun _ _ _ _ _ h => h) (fun _ => by have := K.out.drew.range; rwa [toArr] at this) ?_
  simp only [List.map_cons, List.map_nil, List.getD_cons_succ, List.getD_cons_zero]
  (repeat (first | ((refine qs_row (by rfl) 54 (.tmp 5) rfl w.heap.size 0 rfl (slC s) _ (fun j w' h1 h2 h => h h2) Tryz.underlying54 rfl (slC_info s) ?_); simp only [Act.put, List.setIfInBounds_toArray, List.set_cons_zero, List.set_cons_succ]) | (refine qs_now (v := ?_) (by rfl) ?_ ?_; rotate_left 1; (· (intro w' hS; go_simp; (try (simp only [↓IntWalk.iteOmega]; go_simp)); (try simp (disch := omega) only [IntWalk.i64_in]); try with_reducible rfl)); simp only [Act.put, List.setIfInBounds_toArray, List.set_cons_zero, List.set_cons_succ]) | (refine qs_run (v := ?_) (by rfl) ?_ ?_; rotate_left 1; (· (intro j w' hS; go_simp; (try (simp only [↓IntWalk.iteOmega]; go_simp)); (try simp (disch := omega) only [IntWalk.i64_in]); try with_reducible rfl)); simp only [Act.put, List.setIfInBounds_toArray, List.set_cons_zero, List.set_cons_succ]) | (refine qs_mid (v := ?_) (by rfl) ?_ ?_; rotate_left 1; (· (intro j w' hj1 hj2 hS; go_simp; (try (simp only [↓IntWalk.iteOmega]; go_simp)); (try simp (disch := omega) only [IntWalk.i64_in]); try with_reducible rfl)); simp only [Act.put, List.setIfInBounds_toArray, List.set_cons_zero, List.set_cons_succ]) | (refine qs_skip (by rfl) ?_; simp only [Act.put, List.setIfInBounds_toArray, List.set_cons_zero, List.set_cons_succ])))
  refine qs_act ?_
  go_wp2_with ((with_reducible show wpList _ _ _ (_ :: _) _ _); refine wpl_put rfl 54 (.tmp 47) (.tmp 44) rfl mi (1 + u * 34) (slC s) rfl rfl _ _ H1.out.blk.drew (slC_info s) (by rw [List.size_toArray, mapsC_len, slC_len]; omega) (slC_one s) ?_; intro w2 hk hg hz; have K2 := Lib.hid hk; have G2 := Lib.hid hg; clear hk hg hz)
  refine ⟨fun h => absurd h (by omega), ?_⟩
  refine qs_nil ?_
  go_wp2_with fail
  go_ret
  unfold SetPost setF
  rw [HE.out, if_pos rfl, Int.toNat_natCast]
  have K2' := K2.out
  rw [mapsC_put n f bs u hu s] at K2'
  have G1 : w1.grownBy w2 (some mi) := ⟨G2.out.os, G2.out.tape, G2.out.output, G2.out.size, G2.out.block⟩
  exact ⟨rfl, H1.out.set K2' G1, (Tch.below L1.out).trans (Tch.grown G1 (fun k hk => by injection hk with hk; subst hk; exact .inl (by simp)))⟩
end Go.Proofs.YtgjjdfhoakailaaGreat
