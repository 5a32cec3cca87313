/-
  what this claim needs of: DkI6, DkI7, DkL2 (written by cut.py).
-/
import Derived.Test.YtffalfacakdhkaaGreatDoorDDkI4
import Derived.Test.YtffalfacakdhkaaGreatDoorDDkA3
import Derived.Test.YtffalfacakdhkaaGreatDoorDDkO4
namespace Go.Proofs.YtffalfacakdhkaaGreatDoor
open Go.RowKit Go.Maps Go.Shelf
set_option linter.unusedVariables false
set_option linter.unusedSimpArgs false
section
variable {W : World} {i : ImI} {N q : Nat} {Y : Hd} {M : SnM}
def ThI (zs : List Int) (s : Int) (w1 : World) (m : Nat) (iv : Value) (wk : World) : Prop := ∃ j : Nat, iv = .int .i64 (j : Int) ∧ j ≤ zs.length ∧ j + m ≤ zs.length ∧ zs.length ≤ j + m ∧ (∀ y ∈ zs.take j, y ≠ s) ∧ wk = w1
set_option maxRecDepth 100000 in
theorem im_there [gm : Inhabited GMk] (h : ImIs W i N q Y M) (s : Int) : Calls Tryz.prog 113 #[.pointer (some ⟨i.x, 0, none⟩), .int .i64 s] W fun e w' => e = .returned (.bool (decide (s ∈ sIds M))) ∧ Below W.heap.size W w' := by
 have H := yH h
 have c11 := h.c11
 have hM : M.length ≤ 1000 := h.ids.1
 clear h
 obtain ⟨zs, hzs⟩ : ∃ zs, zs = sIds M := ⟨_, rfl⟩
 have hzl : zs.length = M.length := by rw [hzs, sIds_len]
 have hzl2 : zs.length ≤ 1000 := by omega
 rw [← hzs]
 have HZ := yH (And.intro hzs hzl)
 clear hzs hzl
 go_enter Tryz.func113, Tryz.ntmps113
 go_wp2_with (first
  | (go_at_call 107; refine (st_maps H.out.st).mono ?_; rintro e w1 ⟨rfl, rfl⟩)
  | (go_at_call 108; refine (ids_any H.out.st.maps (by omega)).mono ?_; rintro e w1 ⟨v, rfl, ho, _, hl⟩; rewrite [← HZ.out.1, ← HZ.out.2] at ho; have O1 := yH ho; have L1 := yH hl; obtain ⟨A, c, rfl, _⟩ := own_slice ho; clear ho hl))
 clear c11 hM
 go_loopg [14] zs.length (fun m iv wk => ThI zs s w1 m iv wk)
 case atStart => exact ⟨0, rfl, by omega, by omega, by omega, by simp, rfl⟩
 case round =>
  obtain ⟨j, rfl, h1, h2, h3, h4, rfl⟩ := hrel
  by_cases hj : j < zs.length
  ·have hJ : (j : Int) < (zs.length : Int) := by omega
   obtain ⟨g, cap, hv, _⟩ := O1.out.form (by omega)
   injection hv with hA hn hc
   subst hA
   subst hc
   have hcell := own_int_cell O1.out hj
   obtain ⟨y, hy⟩ : ∃ y, y = zs[j] := ⟨_, rfl⟩
   rw [← hy] at hcell
   have HY := yH hy
   have H4 := yH h4
   clear hy h4
   by_cases hys : y = s
   ·subst hys
    go_wp2
    go_ret
    refine ⟨?_, L1.out⟩
    rw [decide_eq_true (show y ∈ zs by rw [HY.out]; exact List.getElem_mem hj)]
    rfl
   ·go_wp2
    go_roundg (gk - 1)
    case measure => omega
    case rel =>
     refine ⟨j + 1, by go_num, by omega, by omega, by omega, ?_, rfl⟩
     intro z hz
     rw [List.take_succ_eq_append_getElem hj] at hz
     rcases List.mem_append.1 hz with hz | hz
     ·exact H4.out z hz
     ·rw [List.mem_singleton.1 hz, ← HY.out]
      exact hys
  ·have hJ : ¬ (j : Int) < (zs.length : Int) := by omega
   obtain rfl : j = zs.length := by omega
   go_wp2
   go_ret
   refine ⟨?_, L1.out⟩
   rw [decide_eq_false (fun hm => h4 _ (by rw [List.take_length]; exact hm) rfl)]
   rfl
theorem mem_sIds {M : SnM} {s : Int} (h : s ∈ sIds M) : (aget M s).isSome = true := by
 obtain ⟨p, hp, rfl⟩ := List.mem_map.1 ((sIds_perm M).mem_iff.1 h)
 cases hq : aget M p.1 with
 | none => exact absurd rfl (aget_none.1 hq p hp)
 | some q => rfl
/-- What a deletion does. -/
def DelPost [gm : Inhabited GMk] (W : World) (i : ImI) (N q : Nat) (Y : Hd) (M : SnM) (s : Int) (r : Int) (w' : World) : Prop :=
 (s ∈ sIds M ∧ r = 0 ∧ ImIs w' i (N + 1) (q + 1) Y (adel M s) ∧ Tch (imT i) W w') ∨ (s ∉ sIds M ∧ r = 13 ∧ ImIs w' i N q Y M ∧ Tch (imT i) W w')
theorem DelPost.from [gm : Inhabited GMk] {W W1 w' : World} {s r : Int} (h : DelPost W1 i N q Y M s r w') (hT : Below W.heap.size W W1) : DelPost W i N q Y M s r w' := by
 rcases h with ⟨h1, h2, h3, h4⟩ | ⟨h1, h2, h3, h4⟩
 ·exact .inl ⟨h1, h2, h3, (Tch.below hT).trans h4⟩
 ·exact .inr ⟨h1, h2, h3, (Tch.below hT).trans h4⟩
set_option maxRecDepth 100000 in
set_option maxHeartbeats 1000000 in
theorem im_other1 [gm : Inhabited GMk] (h : ImIs W i N q Y M) (hq : q ≤ 6) (hN : N ≤ 1000) (hM : M.length ≤ 8) (s : Nat) (hs : 1 ≤ s ∧ s ≤ 1073741824) {a b c : Nat} (ha : Blk W a 35 #[.pointer (some ⟨i.x, 0, none⟩)]) (hb : Blk W b 3 #[.int .i64 (s : Int)]) (hc : Blk W c 134 #[.int .u8 4]) :
  Calls Tryz.prog 187 #[.pointer (some ⟨a, 0, none⟩), .pointer (some ⟨b, 0, none⟩), .pointer (some ⟨c, 0, none⟩)] W fun e w' => ∃ r, e = .returned (.int .i64 r) ∧ r ≠ 9 ∧ DelPost W i N q Y M (s : Int) r w' := by
 have H := yH h
 have HA := yH ha
 have HB := yH hb
 have HC := yH hc
 have a0 : W.cell? ⟨a, 0, none⟩ = some (.pointer (some ⟨i.x, 0, none⟩)) := ha.cell rfl
 have b0 : W.cell? ⟨b, 0, none⟩ = some (.int .i64 (s : Int)) := hb.cell rfl
 have HL := yH (fun (h0 : (s : Int) ∈ sIds M) w1 (hI : ImIs w1 i N q Y M) => im_log hI hq hN 4 s (.inr rfl) hs (fun M' => M' = adel M (s : Int)) (by rintro M' rfl; exact ⟨⟨Nat.le_trans (adel_le _ _) hI.ids.1, fun p hp => hI.ids.2 p (mem_adel hp)⟩, allZ_del hI.allz _⟩) (fun W' hS => (do_drop hS hI.ids hI.allz (s : Int) (by omega) (mem_sIds h0) hM).mono (by rintro e w' ⟨rfl, h1, h2⟩; exact ⟨_, rfl, rfl, h1, h2⟩)))
 clear h hq hN hM hs ha hb hc
 by_cases h0 : (s : Int) ∈ sIds M
 ·have HT := yH (fun w (hI : ImIs w i N q Y M) => (im_there hI (s : Int)).mono (R' := fun e w' => e = .returned (.bool true) ∧ Below w.heap.size w w') (by rintro e w' ⟨rfl, hb⟩; rw [decide_eq_true h0]; exact ⟨rfl, hb⟩))
  have H0 := yH h0
  clear h0
  go_enter Tryz.func187, Tryz.ntmps187
  go_wp2_with (go_at_call 113; refine (HT.out _ H.out).mono ?_; rintro e w1 ⟨rfl, hl⟩; have L1 := yH hl; have I1 := yH (H.out.below hl); have A1 := yH (HA.out.below hl HA.out.lt); have B1 := yH (HB.out.below hl HB.out.lt); have C1 := yH (HC.out.below hl HC.out.lt); have a1 : w1.cell? ⟨a, 0, none⟩ = some (.pointer (some ⟨i.x, 0, none⟩)) := A1.out.cell rfl; have b1 : w1.cell? ⟨b, 0, none⟩ = some (.int .i64 (s : Int)) := B1.out.cell rfl; have c1 : w1.cell? ⟨c, 0, none⟩ = some (.int .u8 4) := C1.out.cell rfl; clear hl)
  refine (HL.out H0.out w1 I1.out).mono ?_
  rintro e w2 ⟨M', rfl, rfl, hI, hT⟩
  have I2 := yH hI
  have T2 := yH hT
  clear hI hT
  go_wp2
  go_ret
  exact ⟨0, rfl, by omega, .inl ⟨H0.out, rfl, I2.out, (Tch.below L1.out).trans T2.out⟩⟩
 ·have HT := yH (fun w (hI : ImIs w i N q Y M) => (im_there hI (s : Int)).mono (R' := fun e w' => e = .returned (.bool false) ∧ Below w.heap.size w w') (by rintro e w' ⟨rfl, hb⟩; rw [decide_eq_false h0]; exact ⟨rfl, hb⟩))
  have H0 := yH h0
  clear h0
  go_enter Tryz.func187, Tryz.ntmps187
  go_wp2_with (go_at_call 113; refine (HT.out _ H.out).mono ?_; rintro e w1 ⟨rfl, hl⟩; have L1 := yH hl; have I1 := yH (H.out.below hl); clear hl)
  go_ret
  exact ⟨13, rfl, by omega, .inr ⟨H0.out, rfl, I1.out, Tch.below L1.out⟩⟩
set_option maxRecDepth 100000 in
set_option maxHeartbeats 1000000 in
theorem im_delete [gm : Inhabited GMk] (h : ImIs W i N q Y M) (hq : q ≤ 6) (hN : N ≤ 1000) (hM : M.length ≤ 8) (s : Nat) (hs : 1 ≤ s ∧ s ≤ 1073741824) :
  Calls Tryz.prog 52 #[.pointer (some ⟨i.x, 0, none⟩), .int .i64 (s : Int)] W fun e w' => ∃ r, e = .returned (.int .i64 r) ∧ DelPost W i N q Y M (s : Int) r w' := by
 have H := yH h
 have HO := yH (fun w (hI : ImIs w i N q Y M) a b c ha hb hc => im_other1 hI hq hN hM s hs (a := a) (b := b) (c := c) ha hb hc)
 clear h hq hN hM hs
 have HX := yH (show Calls Tryz.prog 111 #[.pointer (some ⟨i.x, 0, none⟩), .int .u8 4, .int .i64 (s : Int)] W fun e w' => ∃ r, e = .returned (.int .i64 r) ∧ DelPost W i N q Y M (s : Int) r w' by
  go_enter Tryz.func111, Tryz.ntmps111
  go_wp2_with (first
   | (refine wpl_boxD rfl 35 (.tmp 0) rfl (.pointer (some ⟨i.x, 0, none⟩)) rfl rfl ?_; intro w1 hk hg hz; have A1 := yH hk; have L1 := yH (bl_n (Below.refl _ W) hg); clear hk hg hz; simp only [Act.put, yA, yB, yC])
   | (refine wpl_boxD rfl 134 (.tmp 1) rfl (.int .u8 4) rfl rfl ?_; intro w2 hk hg hz; have C2 := yH hk; have M2 := yH (bl_n (Below.refl w1.heap.size w1) hg); have L2 := yH (below_chain L1.out M2.out); have A2 := yH (A1.out.below M2.out A1.out.lt); clear hk hg hz; simp only [Act.put, yA, yB, yC])
   | (refine wpl_boxD rfl 3 (.tmp 2) rfl (.int .i64 (s : Int)) rfl rfl ?_; intro w3 hk hg hz; have B3 := yH hk; have M3 := yH (bl_n (Below.refl w2.heap.size w2) hg); have L3 := yH (below_chain L2.out M3.out); have A3 := yH (A2.out.below M3.out A2.out.lt); have C3 := yH (C2.out.below M3.out C2.out.lt); have a3 : w3.cell? ⟨W.heap.size, 0, none⟩ = some (.pointer (some ⟨i.x, 0, none⟩)) := A3.out.cell rfl; clear hk hg hz; simp only [Act.put, yA, yB, yC]))
  refine (im_do (H.out.below L3.out) _ _ _ Tryz.func187 (by kernel_rfl) rfl _ (fun r w' => DelPost w3 i N q Y M (s : Int) r w') (HO.out w3 (H.out.below L3.out) _ _ _ A3.out B3.out C3.out)).mono ?_
  rintro e w4 ⟨r, rfl, hD⟩
  have D4 := yH (hD.from L3.out)
  clear hD
  go_wp2
  go_ret
  exact ⟨r, rfl, D4.out⟩)
 go_enter Tryz.func52, Tryz.ntmps52
 go_wp2_with (go_at_call 111; refine HX.out.mono ?_; rintro e w1 ⟨r, rfl, hD⟩; have D1 := yH hD; clear hD)
 go_ret
 exact ⟨r, rfl, D1.out⟩
end
end Go.Proofs.YtffalfacakdhkaaGreatDoor
namespace Go.Proofs.YtffalfacakdhkaaGreatDoor
open Go.RowKit Go.Maps Go.Shelf
set_option linter.unusedVariables false
set_option linter.unusedSimpArgs false
theorem nin1 {b r : Nat} (h : b ≠ r) : b ∉ [r] := by simpa using h
theorem StIs.oth {W W' : World} {si xi bx mi bs k r : Nat} {E : ExM} {f : MpF} {M : SnM} {t : TypeId} {cs : Array Value} (h : StIs W si xi bx mi bs k E f M) (hr : Blk W r t cs) (h1 : 214 ≠ t) (h2 : 302 ≠ t) (h3 : 284 ≠ t) (h4 : 282 ≠ t) (hT : Tch [r] W W') : StIs W' si xi bx mi bs k E f M :=
 h.tch hT (nin1 (blk_ne_tyD h.blk hr h1)) (nin1 (blk_ne_tyD h.idx.blk hr h2)) (nin1 (blk_ne_mapD h.idx.map hr).symm) (nin1 (blk_ne_tyD h.maps.blk hr h3)) (nin1 (blk_ne_mapD h.maps.map hr).symm) (fun p hp => nin1 (blk_ne_tyD (h.maps.each p hp) hr h4))
section
variable {W W' : World} {i : ImI} {N q r : Nat} {Y : Hd} {M : SnM}
theorem ImIs.oth [gm : Inhabited GMk] {t : TypeId} {cs : Array Value} (h : ImIs W i N q Y M) (hb : Blk W r t cs) (ht : OtT t) (hT : Tch [r] W W') : ImIs W' i N q Y M := by
 obtain ⟨h1, h2, h3, h4, h5, h6, h7, h8, h9⟩ := ht
 exact ⟨h.blk.tch hT (nin1 (blk_ne_tyD h.blk hb h1)), h.cc.imp (fun L hc => hc.oth hb h2.symm h3.symm h4.symm hT), h.st.oth hb h5 h6 h7 h8 hT, h.jr.tch hT (nin1 (blk_ne_tyD h.jr hb h9)), h.ids, h.allz, h.far, h.geo⟩
def hdN (s : Int) : Hd := ⟨geS, 1, 0, 0, s⟩
theorem imC_set (i : ImI) (s z : Int) : (imC i (hdN s)).toArray.setIfInBounds 10 (.int .i64 z) = (imC i (hdN z)).toArray := by kernel_rfl
theorem ImIs.snapped [gm : Inhabited GMk] {s z : Int} (h : ImIs W i N q (hdN s) M) (hb : Blk W' i.x 148 (imC i (hdN z)).toArray) (hT : Tch [i.x] W W') : ImIs W' i N q (hdN z) M :=
 ⟨hb, h.cc.imp (fun L hc => hc.oth h.blk (by decide) (by decide) (by decide) hT), h.st.oth h.blk (by decide) (by decide) (by decide) (by decide) hT, h.jr.tch hT (nin1 (blk_ne_tyD h.jr h.blk (by decide))), h.ids, h.allz, h.far, rfl⟩
theorem ImIs.nin [gm : Inhabited GMk] {b : Nat} {t : TypeId} {cs : Array Value} (h : ImIs W i N q Y M) (hb : Blk W b t cs) (ht : OtT t) : b ∉ imT i := by
 obtain ⟨L, K, S, O, h1, h2⟩ := h.cc
 obtain ⟨now, hi, mi, hk⟩ := h1.blk
 unfold imT
 simp only [List.mem_cons, List.not_mem_nil, or_false, not_or]
 exact ⟨blk_ne_tyD hb hk ht.2.1.symm, blk_ne_mapD h1.map hb, blk_ne_mapD h1.dk.safe hb, blk_ne_mapD h1.dk.opn hb, blk_ne_tyD hb h.jr ht.2.2.2.2.2.2.2.2.symm, blk_ne_tyD hb h.blk ht.1.symm, blk_ne_mapD h.st.idx.map hb, blk_ne_tyD hb h.st.maps.blk ht.2.2.2.2.2.2.1.symm, blk_ne_mapD h.st.maps.map hb⟩
def ImSnap [gm : Inhabited GMk] (W : World) (i : ImI) (N q : Nat) (s : Int) (M : SnM) (b : Nat) (w' : World) : Prop := (∃ g, ImIs w' i (N + 1) (q + 1) (hdN (s + 1)) (aput M s (g, zF))) ∧ Blk w' b 3 #[.int .i64 s] ∧ Tch (b :: imT i) W w'
theorem idsOk_put {M : SnM} (hM : IdsOk M) (hl : M.length ≤ 7) {s : Int} (hs : 1 ≤ s ∧ s ≤ 1073741824) (g : Nat) : IdsOk (aput M s (g, zF)) := by
 refine ⟨?_, fun p hp => ?_⟩
 ·unfold aput
  rw [List.length_cons]
  have := adel_le M s
  omega
 ·unfold aput at hp
  rcases List.mem_cons.1 hp with rfl | hp
  ·exact hs
  ·exact hM.2 p (mem_adel hp)
set_option maxRecDepth 100000 in
set_option maxHeartbeats 1000000 in
theorem im_snap1 [gm : Inhabited GMk] (s : Nat) (h : ImIs W i N q (hdN (s : Int)) M) (hq : q ≤ 5) (hN : N ≤ 1000) (hM : M.length ≤ 7) (hs : 1 ≤ s ∧ s ≤ 100) (hn : aget M (s : Int) = none) {a b : Nat} (ha : Blk W a 35 #[.pointer (some ⟨i.x, 0, none⟩)]) (hb : Blk W b 3 #[.int .i64 0]) :
  Calls Tryz.prog 106 #[.pointer (some ⟨a, 0, none⟩), .pointer (some ⟨b, 0, none⟩)] W fun e w' => ∃ r, e = .returned (.int .i64 r) ∧ r ≠ 9 ∧ r = 0 ∧ ImSnap W i N q (s : Int) M b w' := by
 have H := yH h
 have HA := yH ha
 have HB := yH hb
 have a0 : W.cell? ⟨a, 0, none⟩ = some (.pointer (some ⟨i.x, 0, none⟩)) := ha.cell rfl
 have c11 := h.c11
 have HAh := yH (fun W (h : ImIs W i N q (hdN (s : Int)) M) => im_ahead h (by omega) 3 s (.inl rfl) (by omega))
 have HRc := yH (fun W (h : ImIs W i N q (hdN (s : Int)) M) => im_record h (by omega) hN 3 s (.inl rfl) (by omega) (fun M' => ∃ g, M' = aput M (s : Int) (g, zF)) (by rintro M' ⟨g, rfl⟩; exact ⟨idsOk_put h.ids hM (by omega) g, allZ_put h.allz _ g⟩) (fun W' hS => (do_snap hS h.ids h.allz (s : Int) (by omega) hn (by omega)).mono (by rintro e w' ⟨g, rfl, h1, h2⟩; exact ⟨_, rfl, ⟨g, rfl⟩, h1, h2⟩)))
 have hM8 : ¬ (8 : Int) ≤ (M.length : Int) := by omega
 have hM9 : (M.length : Int) ≤ 7 := by omega
 have hs9 : (s : Int) ≤ 100 := by omega
 clear h ha hb hq hN hM hs hn
 go_enter Tryz.func106, Tryz.ntmps106
 go_upto_region 3 with (first
  | (go_at_call 107; refine (st_maps H.out.st).mono ?_; rintro e w1 ⟨rfl, rfl⟩)
  | (go_at_call 108; refine (ids_any H.out.st.maps (by omega)).mono ?_; rintro e w1 ⟨v, rfl, ho, _, hl⟩; have L1 := yH hl; have I1 := yH (H.out.below hl); have A1 := yH (HA.out.below hl HA.out.lt); have B1 := yH (HB.out.below hl HB.out.lt); have a1 : w1.cell? ⟨a, 0, none⟩ = some (.pointer (some ⟨i.x, 0, none⟩)) := A1.out.cell rfl; have s1 : w1.cell? ⟨i.x, 10, none⟩ = some (.int .i64 (s : Int)) := I1.out.snap; obtain ⟨A, c, rfl, _⟩ := own_slice ho; clear ho hl))
 clear a0 c11 hM8 hM9
 go_upto_region 10 with (first
  | (go_at_call 109; refine (HAh.out _ I1.out).mono ?_; rintro e w2 ⟨rfl, hl⟩; have L2 := yH (below_chain L1.out hl); have I2 := yH (I1.out.below hl); have A2 := yH (A1.out.below hl A1.out.lt); have B2 := yH (B1.out.below hl B1.out.lt); have a2 : w2.cell? ⟨a, 0, none⟩ = some (.pointer (some ⟨i.x, 0, none⟩)) := A2.out.cell rfl; clear hl)
  | (go_at_call 110; refine (HRc.out _ I2.out).mono ?_; rintro e w3 ⟨M', rfl, ⟨g, rfl⟩, hI, hT⟩; have T3 := yH hT; have I3 := yH hI; have A3 := yH (A2.out.tch hT (I2.out.nin A2.out (by decide))); have B3 := yH (B2.out.tch hT (I2.out.nin B2.out (by decide))); clear hI hT))
 have A3d := yH A3.out.drew
 have B3d := yH B3.out.drew
 have I3d := yH I3.out.drew
 have T3d := yH (show Tch (b :: imT i) W w3.drew from ((Tch.below L2.out).trans (T3.out.trans (Tch.below (Below.refl _ w3).drew))).mono (fun k hk => List.mem_cons_of_mem _ hk))
 clear A1 A2 B1 B2 I1 I2 L1 L2 T3 HAh HRc H HA HB
 refine wp_region_qs (fun _ w' => w'.cell? ⟨a, 0, none⟩ = some (.pointer (some ⟨i.x, 0, none⟩))) [(0, some 1), (1, some 0), (2, some 1), (3, some 1), (4, none), (5, some 2), (6, some 2), (7, some 1), (8, none)] (by kernel_rfl) (by kernel_rfl) (by kernel_rfl) (by kernel_rfl) (by kernel_rfl) (fun _ _ _ _ _ h => h) (A3d.out.cell rfl) ?_
 simp only [yD, yE, yF, yG]
 (repeat (first | (refine qs_mid (v := ?_) (by rfl) ?_ ?_; rotate_left 1; (· (intro j w' hj1 hj2 hS; go_simp; (try (simp only [↓IntWalk.iteOmega]; go_simp)); (try simp (disch := omega) only [IntWalk.i64_in]); try with_reducible rfl)); simp only [Act.put, yA, yB, yC]) | (refine qs_skip (by rfl) ?_; simp only [Act.put, yA, yB, yC])))
 refine qs_act ?_
 go_wp2_with (refine wpl_setD rfl 3 (.tmp 1) (.tmp 42) (by rfl) b 0 (.int .i64 (s : Int)) (by rfl) (by rfl) _ _ B3d.out info_intD (by show 0 < 1; omega) (by rfl) (by rfl) ?_; intro w4 hb hg hz; have B4 := yH (show Blk w4 b 3 #[.int .i64 (s : Int)] from hb); have T4 := yH (Tch.one hg); have A4 := yH (A3d.out.tch T4.out (nin1 (blk_ne_tyD A3d.out B3d.out (by decide)))); have I4 := yH (I3d.out.oth B3d.out (by decide) T4.out); clear hb hg hz)
 refine ⟨A4.out.cell rfl, ?_⟩
 (repeat (first | (refine qs_mid (v := ?_) (by rfl) ?_ ?_; rotate_left 1; (· (intro j w' hj1 hj2 hS; go_simp; (try (simp only [↓IntWalk.iteOmega]; go_simp)); (try simp (disch := omega) only [IntWalk.i64_in]); try with_reducible rfl)); simp only [Act.put, yA, yB, yC]) | (refine qs_skip (by rfl) ?_; simp only [Act.put, yA, yB, yC])))
 refine qs_act ?_
 go_wp2_with (refine wpl_setD rfl 3 (.tmp 47) (.tmp 44) (by rfl) i.x 10 (.int .i64 ((s : Int) + 1)) (by rfl) (by rfl) _ _ I4.out.blk info_intD (by show 10 < 15; omega) (by rfl) (by rfl) ?_; intro w5 hb hg hz; have X5 := yH (show Blk w5 i.x 148 (imC i (hdN ((s : Int) + 1))).toArray by rw [← imC_set i (s : Int)]; exact hb); have T5 := yH (Tch.one hg); have A5 := yH (A4.out.tch T5.out (nin1 (blk_ne_tyD A4.out I4.out.blk (by decide)))); have B5 := yH (B4.out.tch T5.out (nin1 (blk_ne_tyD B4.out I4.out.blk (by decide)))); have I5 := yH (I4.out.snapped X5.out T5.out); clear hb hg hz)
 refine ⟨A5.out.cell rfl, ?_⟩
 (repeat (first | (refine qs_mid (v := ?_) (by rfl) ?_ ?_; rotate_left 1; (· (intro j w' hj1 hj2 hS; go_simp; (try (simp only [↓IntWalk.iteOmega]; go_simp)); (try simp (disch := omega) only [IntWalk.i64_in]); try with_reducible rfl)); simp only [Act.put, yA, yB, yC]) | (refine qs_skip (by rfl) ?_; simp only [Act.put, yA, yB, yC])))
 refine qs_nil ?_
 go_wp2_with fail
 go_ret
 refine ⟨0, rfl, by omega, rfl, ⟨g, I5.out⟩, B5.out, (T3d.out.trans (T4.out.mono (by simp))).trans (T5.out.mono (by simp [imT]))⟩
def SnPost [gm : Inhabited GMk] (W : World) (i : ImI) (N q : Nat) (s : Int) (M : SnM) (w' : World) : Prop := (∃ g, ImIs w' i (N + 1) (q + 1) (hdN (s + 1)) (aput M s (g, zF))) ∧ Tch (imT i) W w'
set_option maxRecDepth 100000 in
set_option maxHeartbeats 1000000 in
theorem im_snap [gm : Inhabited GMk] (s : Nat) (h : ImIs W i N q (hdN (s : Int)) M) (hq : q ≤ 5) (hN : N ≤ 1000) (hM : M.length ≤ 7) (hs : 1 ≤ s ∧ s ≤ 100) (hn : aget M (s : Int) = none) :
  Calls Tryz.prog 50 #[.pointer (some ⟨i.x, 0, none⟩)] W fun e w' => e = .returned (.tuple #[.int .i64 (s : Int), .int .i64 0]) ∧ SnPost W i N q (s : Int) M w' := by
 have H := yH h
 have HO := yH (fun w (hI : ImIs w i N q (hdN (s : Int)) M) a b ha hb => im_snap1 s hI hq hN hM hs hn (a := a) (b := b) ha hb)
 clear h hq hN hM hs
 go_enter Tryz.func50, Tryz.ntmps50
 go_wp2_with (first
   | (refine wpl_boxD rfl 35 (.tmp 0) rfl (.pointer (some ⟨i.x, 0, none⟩)) rfl rfl ?_; intro w1 hk hg hz; have A1 := yH hk; have L1 := yH (bl_n (Below.refl _ W) hg); clear hk hg hz; simp only [Act.put, yA, yB, yC])
   | (refine wpl_allocD rfl 3 (by rfl) (.int .i64 0) Tryz.zeroValue3 rfl ?_; intro w2 hk hg hz; have C2 := yH hk; have M2 := yH (bl_n (Below.refl w1.heap.size w1) hg); have L2 := yH (below_chain L1.out M2.out); have A2 := yH (A1.out.below M2.out A1.out.lt); have a2 : w2.cell? ⟨W.heap.size, 0, none⟩ = some (.pointer (some ⟨i.x, 0, none⟩)) := A2.out.cell rfl; clear hk hg hz; simp only [Act.put, yA, yB, yC])
   | (go_at_call 88; refine (im_do (H.out.below L2.out) _ _ _ Tryz.func106 (by kernel_rfl) rfl _ (fun r w' => r = 0 ∧ ImSnap w2 i N q (s : Int) M w1.heap.size w') (HO.out w2 (H.out.below L2.out) _ _ A2.out C2.out)).mono ?_; rintro e w4 ⟨r, rfl, rfl, hI, hB, hT⟩; have I4 := yH hI; have B4 := yH hB; have T4 := yH hT; have b4 : w4.cell? ⟨w1.heap.size, 0, none⟩ = some (.int .i64 (s : Int)) := hB.cell rfl; clear hI hB hT)
   | (refine wpl_setD rfl 3 (.tmp 2) (.tmp 7) (by rfl) w1.heap.size 0 (.int .i64 (s : Int)) (by rfl) (by rfl) _ _ B4.out info_intD (by show 0 < 1; omega) (by rfl) (by rfl) ?_; intro w5 hb hg hz; have B5 := yH (show Blk w5 w1.heap.size 3 #[.int .i64 (s : Int)] from hb); have T5 := yH (Tch.one hg); have b5 : w5.cell? ⟨w1.heap.size, 0, none⟩ = some (.int .i64 (s : Int)) := B5.out.cell rfl; clear hb hg hz))
 obtain ⟨g, hI⟩ := I4.out
 have h1 := L1.out.size
 refine bodyPost_ret (v := .tuple #[.int .i64 (s : Int), .int .i64 0]) (by simp [results, Tryz.f50, go_sem, b5]) rfl ⟨rfl, ⟨g, hI.oth B4.out (by decide) T5.out⟩, ?_⟩
 refine ((Tch.below L2.out).fresh T4.out ?_).fresh T5.out ?_
 ·intro k hk
  rcases List.mem_cons.1 hk with rfl | hk
  ·exact .inr h1
  ·exact .inl hk
 ·intro k hk
  rw [List.mem_singleton.1 hk]
  exact .inr h1
end
end Go.Proofs.YtffalfacakdhkaaGreatDoor
namespace Go.Proofs.YtffalfacakdhkaaGreatDoor
open Go.RowKit Go.Maps Go.Shelf
set_option linter.unusedVariables false
set_option linter.unusedSimpArgs false
theorem run_store_fnL {P : Program} {w : World} (a : Addr) (m : Mode) (fn : Fn) (first captured : Array Value) : (store a (.func fn first captured) m).run P w = stored P w a (.func fn first captured) m := run_store P w a _ m rfl
attribute [local go_sem] Oper.semAt_some run_store_fnL

theorem grown_cell4 (w : World) (g i : Nat) (v : Value) : w.grownBy (w.setCell ⟨g, i, none⟩ v) (some g) := by
 have h := (grown_setCells (g := g) [v] w i).1
 exact h
/-- How a line ends: told, or refused. -/
def LnEnd (w0 : World) (db : Nat) (out o : List UInt8) (n : Int) (E' : Value → Value → Value → World → Prop) (W : World) (r : Int) (w' : World) : Prop :=
 ∃ v' p' dp' xp', E' dp' xp' v' w' ∧ KpL W w' ∧ ((r = 0 ∧ DkA w0 w' db v' p' (out ++ o) dp' xp' n) ∨ (r ≠ 0 ∧ (-1000 ≤ r ∧ r ≤ 1000) ∧ o = wrongL r n ∧ DkA w0 w' db v' p' out dp' xp' n))
/-- Between two lines. -/
structure RnI (w : World) (db b3 b4 : Nat) (out : List UInt8) (n : Int) (E : Value → Value → Value → World → Prop) (W : World) : Prop where
 ex : ∃ v p dp xp, DkA w W db v p out dp xp n ∧ E dp xp v W
 k3 : Blk W b3 30 #[.pointer (some ⟨db, 0, none⟩)]
 k4 : Blk W b4 44 #[.func (.func 10) #[] #[.pointer (some ⟨b3, 0, none⟩)]]
/-- A box of the iterator, or a loop. -/
def SpX (W : World) (r : Nat) : Prop := (∃ cs, Blk W r 9 cs) ∨ (∃ o, W.heap[r]? = some o ∧ LoopObj o)
theorem SpX.alien {W : World} {r : Nat} (h : SpX W r) : Alien W r := by
 rcases h with ⟨cs, h⟩ | ⟨o, h, h1, h2⟩
 ·exact .inl ⟨_, _, h, by decide⟩
 ·exact .inr ⟨o, h, h1, h2⟩
theorem SpX.nin {W : World} {r g : Nat} {t : TypeId} {cs : Array Value} (h : SpX W r) (hb : Blk W g t cs) (ht : t ≠ 9) : g ∉ [r] := by
 intro hm
 simp only [List.mem_singleton] at hm
 subst hm
 rcases h with ⟨cs', h⟩ | ⟨o, h, hc, _⟩
 ·exact blk_ne_tyD hb h ht rfl
 ·unfold Blk at hb
  rw [h] at hb
  injection hb with hb
  rw [hb] at hc
  cases hc
theorem RnI.turn {w W W' : World} {db b3 b4 r : Nat} {out : List UInt8} {n : Int} {E : Value → Value → Value → World → Prop} (hE : ∀ dp xp, EnvOk (E dp xp)) (h : RnI w db b3 b4 out n E W) (hx : SpX W r) (hge : w.heap.size ≤ r) (hT : Tch [r] W W') : RnI w db b3 b4 out n E W' := by
 obtain ⟨v, p, dp, xp, h1, h2⟩ := h.ex
 exact ⟨⟨v, p, dp, xp, h1.tch hT (hx.nin h1.blk (by decide)) (fun g hg => by obtain ⟨cs, hb⟩ := h1.row g hg; exact hx.nin hb (by decide)) (fun k hk => by rw [List.mem_singleton.1 hk]; exact hge), (hE dp xp).alien h2 hx.alien hT⟩, h.k3.tch hT (hx.nin h.k3 (by decide)), h.k4.tch hT (hx.nin h.k4 (by decide))⟩
theorem RnI.below {w W W' : World} {db b3 b4 : Nat} {out : List UInt8} {n : Int} {E : Value → Value → Value → World → Prop} (hE : ∀ dp xp, EnvOk (E dp xp)) (h : RnI w db b3 b4 out n E W) (hb : Below W.heap.size W W') : RnI w db b3 b4 out n E W' := by
 obtain ⟨v, p, dp, xp, h1, h2⟩ := h.ex
 exact ⟨⟨v, p, dp, xp, h1.below hb, (hE dp xp).below h2 hb⟩, h.k3.below hb h.k3.lt, h.k4.below hb h.k4.lt⟩
theorem outOf_len (os : List (List UInt8)) (m : Nat) (h : (os.map List.length).sum ≤ m) (k : Nat) : (outOf os k).length ≤ m := by
 refine Nat.le_trans ?_ h
 unfold outOf cat
 clear h
 induction os generalizing k with
 | nil => simp
 | cons a r ih =>
  cases k with
  | zero => simp
  | succ k =>
   rw [List.take_succ_cons, List.flatMap_cons, List.length_append, List.map_cons, List.sum_cons]
   have := ih k
   simp only [id]
   omega
theorem i64b_le {z : Int} (h : -1000 ≤ z ∧ z ≤ 1000) : i64b z := i64b_small z (by omega)
theorem rn_made (w w1 : World) (hw1 : w1 = ((w.alloc (Obj.cells #[Value.pointer none, Value.slice none 0 0, Value.pointer none, Value.pointer none, Value.int IntKind.i64 0] 37)).alloc (Obj.cells #[Value.pointer (some ⟨w.heap.size, 0, none⟩)] 30)).alloc (Obj.cells #[Value.func (Fn.func 10) #[] #[Value.pointer (some ⟨w.heap.size + 1, 0, none⟩)]] 44)) (E : Value → Value → Value → World → Prop) (h0 : ∀ W, E (.pointer none) (.pointer none) (.slice none 0 0) W) : RnI w w.heap.size (w.heap.size + 1) (w.heap.size + 1 + 1) [] ((0 : Nat) : Int) E w1 := by
 have z1 : (w.alloc (Obj.cells #[Value.pointer none, Value.slice none 0 0, Value.pointer none, Value.pointer none, Value.int IntKind.i64 0] 37)).heap.size = w.heap.size + 1 := by simp
 have z2 : ((w.alloc (Obj.cells #[Value.pointer none, Value.slice none 0 0, Value.pointer none, Value.pointer none, Value.int IntKind.i64 0] 37)).alloc (Obj.cells #[Value.pointer (some ⟨w.heap.size, 0, none⟩)] 30)).heap.size = w.heap.size + 1 + 1 := by simp
 have h1 : Below w.heap.size w w1 := by rw [hw1]; exact (((Below.refl _ w).alloc (Nat.le_refl _) _).alloc (by simp) _).alloc (by simp; omega) _
 have k1 : Boxed w1 (w.heap.size + 1) 30 (.pointer (some ⟨w.heap.size, 0, none⟩)) := by rw [hw1]; have h := (Boxed.new (w.alloc (Obj.cells #[Value.pointer none, Value.slice none 0 0, Value.pointer none, Value.pointer none, Value.int IntKind.i64 0] 37)) 30 (.pointer (some ⟨w.heap.size, 0, none⟩))).alloc (Obj.cells #[Value.func (Fn.func 10) #[] #[Value.pointer (some ⟨w.heap.size + 1, 0, none⟩)]] 44); rw [z1] at h; exact h
 have k2 : Boxed w1 (w.heap.size + 1 + 1) 44 (.func (.func 10) #[] #[.pointer (some ⟨w.heap.size + 1, 0, none⟩)]) := by rw [hw1, ← z2]; exact Boxed.new _ _ _
 have k0 : Blk w1 w.heap.size 37 #[Value.pointer none, Value.slice none 0 0, Value.pointer none, Value.pointer none, Value.int IntKind.i64 0] := by
  have hb := Blk.made w 37 #[Value.pointer none, Value.slice none 0 0, Value.pointer none, Value.pointer none, Value.int IntKind.i64 0]
  rw [hw1]
  exact (hb.below ((Below.refl _ _).alloc (Nat.le_refl _) _) hb.lt).below ((Below.refl _ _).alloc (Nat.le_refl _) _) (by simp; omega)
 exact ⟨⟨_, _, _, _, ⟨Nat.le_refl _, h1, k0, World.ownsRow_nil _ _ _ _, .inl rfl, fun _ => rfl⟩, h0 _⟩, k1, k2⟩
set_option maxRecDepth 100000 in
set_option maxHeartbeats 2000000 in
theorem run_any {w : World} (ht : LnT w) (X : List UInt8) (hX : X.length ≤ 1048576) (ls os : List (List UInt8)) (hj : joinN ls = X) (hls : 0 < ls.length) (hll : ls.length ≤ 2000000) (hno : ∀ a ∈ ls, 10 ∉ a) (hsz : ∀ k, (joinN (ls.drop k)).length ≤ 2000000) (hos : os.length = ls.length) (hol : ∀ k, (outOf os k).length ≤ 1000000) (hwl : ∀ k < ls.length, (os.getD k []).length ≤ 1000)
  (Es : Nat → Value → Value → Value → World → Prop) (hE : ∀ k dp xp, EnvOk (Es k dp xp)) (h0 : ∀ W, Es 0 (.pointer none) (.pointer none) (.slice none 0 0) W)
  (hemp : ∀ k, k < ls.length → ls.getD k [] = [] → os.getD k [] = [] ∧ ∀ dp xp v W, Es k dp xp v W → Es (k + 1) dp xp v W)
  (hline : ∀ k, k < ls.length → ls.getD k [] ≠ [] → ∀ (W1 : World) (db : Nat) (v p dp xp : Value), DkA w W1 db v p (outOf os k) dp xp ((k : Int) + 1) → Es k dp xp v W1 → Calls Tryz.prog 15 #[.pointer (some ⟨db, 0, none⟩), .string ⟨(ls.getD k []).toArray⟩] W1 fun e w' => ∃ r, e = .returned (.int .i64 r) ∧ LnEnd w db (outOf os k) (os.getD k []) ((k : Int) + 1) (Es (k + 1)) W1 r w') :
  Calls Tryz.prog 6 #[.string ⟨X.toArray⟩] w fun e w' => e = .returned (.string ⟨(outOf os ls.length).toArray⟩) ∧ Below w.heap.size w w' := by
 have HT := yH ht
 have HX := yH hX
 have HJ := yH hj
 have HE := yH hE
 have H0 := yH h0
 have HM := yH hemp
 have HL := yH hline
 have HO := yH (And.intro hos (And.intro hol hwl))
 have HLs := yH (And.intro hls (And.intro hll (And.intro hno hsz)))
 obtain ⟨s, hs⟩ : ∃ s : ByteArray, s = ⟨X.toArray⟩ := ⟨_, rfl⟩
 have hss : s.size ≤ 1048576 := by rw [hs, ba_len]; exact hX
 have hsi : ¬ (1048576 : Int) < (s.size : Int) := by omega
 have HS := yH (fun W => split_seq X W)
 rw [← hs] at HS ⊢
 clear ht hX hj hE h0 hemp hline hos hol hwl hls hll hno hsz hs
 refine (callsIn_wide (n := 4)).1 ?_
 refine callsIn_of_wp_marks Tryz.func6 rfl trivial ?_ rfl
 simp only [Tryz.ntmps6, List.size_toArray, List.length_cons, List.length_nil, Nat.reduceAdd, Nat.reduceSub, Array.replicate_succ, Array.replicate_zero, List.push_toArray, List.append_toArray, List.nil_append, List.cons_append]
 gi_wp2
 obtain ⟨w1, hw1⟩ : ∃ v, v = ((w.alloc (Obj.cells #[Value.pointer none, Value.slice none 0 0, Value.pointer none, Value.pointer none, Value.int IntKind.i64 0] 37)).alloc (Obj.cells #[Value.pointer (some ⟨w.heap.size, 0, none⟩)] 30)).alloc (Obj.cells #[Value.func (Fn.func 10) #[] #[Value.pointer (some ⟨w.heap.size + 1, 0, none⟩)]] 44) := ⟨_, rfl⟩
 have R1 := rn_made w w1 hw1 (Es 0) H0.out
 have hsz1 : w.heap.size + 1 + 1 < w1.heap.size := by rw [hw1]; simp
 rw [← hw1]
 clear hw1
 have HR1 := yH R1
 have HG1 := yH hsz1
 clear R1 hsz1
 refine ⟨trivial, (callsIn_wide.2 (HS.out w1)).mono ?_⟩
 rintro e w3 ⟨Bs, Bp, Bz, rfl, hB, hne, g1, g2, g3, hlow⟩
 have HB := yH hB
 have HR3 := yH (HR1.out.below (HE.out 0) hlow)
 have HG := yH (And.intro g1 (And.intro g2 (And.intro g3 (And.intro hlow.size (HR1.out.ex.elim fun v h => h.elim fun p h => h.elim fun dp h => h.elim fun xp h => h.1.low.size)))))
 have HNe := yH hne
 clear hB hlow g1 g2 g3 hne
 gi_wp2
 refine wpIn_range_sp (by omega) HNe.out ls HLs.out.1 HLs.out.2.2.1 HLs.out.2.2.2 HB.out.1.lt HB.out.2.1.lt HB.out.2.2.lt rfl rfl
  (fun k W => RnI w w.heap.size (w.heap.size + 1) (w.heap.size + 1 + 1) (outOf os k) ((k : Nat) : Int) (Es k) W)
  ?hI ?h0 ?hB
  (fun k => { tmps := #[.string s, undef, .string ⟨#[]⟩, .pointer (some ⟨w.heap.size + 1, 0, none⟩), .pointer (some ⟨w.heap.size + 1 + 1, 0, none⟩), .string ⟨(ls.getD k []).toArray⟩, undef, .agg #[.pointer none, .slice none 0 0, .pointer none, .pointer none, .int .i64 0], .pointer (some ⟨w.heap.size, 0, none⟩), .func (.func 10) #[] #[.pointer (some ⟨w.heap.size + 1, 0, none⟩)], .string s, .int .i64 (s.size : Int), .bool false, undef, undef, undef, undef, undef, undef, .string s, .func (.func 30) #[] #[.pointer (some ⟨Bp, 0, none⟩), .pointer (some ⟨Bs, 0, none⟩), .pointer (some ⟨Bz, 0, none⟩)], .string ⟨(ls.getD k []).toArray⟩, undef, undef, undef, undef, undef, undef, undef, undef, undef, undef, undef, undef, undef, undef, undef, undef, undef, undef, undef, undef, undef], defers := [] })
  ?hassign ?hbody ?hdone
 case hI =>
  intro k W W' row h hg hr
  cases row with
  | none => exact h.below (HE.out k) (bl_n (Below.refl _ W) hg)
  | some r =>
   rcases hr r rfl with ⟨rfl, v, hv⟩ | ⟨hge, o, ho, hc⟩
   ·exact h.turn (HE.out k) (.inl ⟨_, hv⟩) (by have := HG.out; omega) (Tch.one hg)
   ·exact h.turn (HE.out k) (.inr ⟨o, ho, hc⟩) (by have := HG.out; omega) (Tch.one hg)
 case h0 => exact HR3.out
 case hB => rw [HJ.out]; exact HB.out
 case hassign =>
  intro l k W K hK
  gi_wp2
  exact hK
 case hbody =>
  intro l k W hk hI hSp
  obtain ⟨v, p, dp, xp, hD, hEv⟩ := hI.ex
  have c3 := (show Boxed W (w.heap.size + 1) _ _ from hI.k3).cell
  have c4 : W.cell? ⟨w.heap.size, 4, none⟩ = some (.int .i64 (k : Int)) := hD.blk.cell rfl
  have f4 : W.frozen? ⟨w.heap.size, 4, none⟩ = false := hD.blk.free 4
  have HSp := yH hSp
  have HK := yH hk
  have hk2 : (k : Int) ≤ 2000000 := by have := HLs.out.2.1; omega
  obtain ⟨W2, hW2⟩ : ∃ W2, W2 = W.setCell ⟨w.heap.size, 4, none⟩ (.int .i64 ((k : Int) + 1)) := ⟨_, rfl⟩
  have g2 : W.grownBy W2 (some w.heap.size) := by rw [hW2]; exact grown_cell4 _ _ _ _
  have K2 : Blk W2 w.heap.size 37 #[p, v, dp, xp, .int .i64 ((k : Int) + 1)] := by rw [hW2]; exact hD.blk.put 4 _
  have D2 := yH (hD.setBlk K2 (Tch.one g2) hD.self)
  have E2 := yH ((HE.out k dp xp).alien hEv hD.alien (Tch.one g2))
  have B3 := yH (hI.k3.tch (Tch.one g2) (nin1 (blk_ne_tyD hI.k3 hD.blk (by decide))))
  have B4 := yH (hI.k4.tch (Tch.one g2) (nin1 (blk_ne_tyD hI.k4 hD.blk (by decide))))
  have S2 := yH (hSp.kept g2 (fun e => by injection e; have := HG.out; have := HG1.out; omega) (fun e => by injection e; have := HG.out; have := HG1.out; omega) (fun e => by injection e; have := HG.out; have := HG1.out; omega))
  have F2 := yH (show KeepsLp w3.heap.size W W2 from ⟨g2.size, fun j o hB hj _ => (g2.block j (Array.getElem?_eq_some_iff.1 hj).1 (fun e => by injection e; have := HG.out; have := HG1.out; omega)).trans hj⟩)
  obtain ⟨A, hA⟩ : ∃ A, A = ls.getD k [] := ⟨_, rfl⟩
  have HA := yH hA
  have HOS := yH (outOf_succ os k (by have := HO.out.1; omega))
  have HWr := yH (HO.out.2.2 k hk)
  have HW2 := yH hW2
  rw [← hA]
  clear hI hSp hD hEv hk g2 K2 hW2 hA
  by_cases hem : A = []
  ·have HMk := yH (HM.out k HK.out (by rw [← HA.out]; exact hem))
   subst hem
   gi_wp2
   rw [← HW2.out]
   refine ⟨F2.out, ⟨⟨v, p, dp, xp, ?_, HMk.out.2 _ _ _ _ E2.out⟩, B3.out, B4.out⟩, S2.out⟩
   rw [HOS.out, HMk.out.1, List.append_nil]
   exact D2.out
  ·have e0 : A.isEmpty = false := by simpa using hem
   have HLn := yH (HL.out k HK.out (by rw [← HA.out]; exact hem) W2 w.heap.size v p dp xp D2.out E2.out)
   rw [← HA.out] at HLn
   clear hem
   gi_wp2
   rw [← HW2.out]
   refine ⟨trivial, (CallsIn.inRound l (callsIn_wide.2 HLn.out)).mono ?_⟩
   rintro e W4 ⟨r, rfl, v', p', dp', xp', hE4, hK4, h4⟩
   have E4 := yH hE4
   have K4 := yH hK4
   have C3 := yH (hK4.blk _ _ _ B3.out (by decide))
   have C4 := yH (hK4.blk _ _ _ B4.out (by decide))
   have S4 := yH (show SpB Bs Bp Bz (joinN (ls.drop k)) W4 from ⟨hK4.blk _ _ _ S2.out.1 (by decide), hK4.blk _ _ _ S2.out.2.1 (by decide), hK4.blk _ _ _ S2.out.2.2 (by decide)⟩)
   have F4 := yH (show KeepsLp w3.heap.size W W4 from ⟨Nat.le_trans F2.out.size hK4.size, fun j o hB hj ho => hK4.obj j o (F2.out.same j o hB hj ho) ho.1 ho.2⟩)
   have d4 : W4.cell? ⟨w.heap.size + 1 + 1, 0, none⟩ = some (.func (.func 10) #[] #[.pointer (some ⟨w.heap.size + 1, 0, none⟩)]) := (show Boxed W4 _ _ _ from C4.out).cell
   clear hE4 hK4 c3 c4 f4
   rcases h4 with ⟨rfl, hD4⟩ | ⟨hr0, hr1, ho, hD4⟩
   ·have D4 := yH hD4
    clear hD4
    gi_wp2
    refine ⟨F4.out, ⟨⟨v', p', dp', xp', ?_, E4.out⟩, C3.out, C4.out⟩, S4.out⟩
    rw [HOS.out]
    exact D4.out
   ·have D4 := yH hD4
    have HOo := yH ho
    have HR := yH hr1
    have d0 : (r == 0) = false := beq_eq_false_iff_ne.2 hr0
    have hwl : (wrongL r ((k : Int) + 1)).length ≤ 1000 := by rw [← ho]; exact HWr.out
    have HWg := yH (dsk_wrong (HE.out (k + 1) dp' xp') HT.out D4.out E4.out (by have := HO.out.2.1 k; omega) C3.out r (i64b_le HR.out) (by unfold i64b; omega) hwl)
    clear hD4 ho hr1 hwl
    gi_wp2
    refine ⟨trivial, (CallsIn.inRound l (callsIn_wide.2 HWg.out)).mono ?_⟩
    rintro e W5 ⟨rfl, v5, p5, hD5, hE5, hK5⟩
    have D5 := yH hD5
    have E5 := yH hE5
    have K5 := yH hK5
    clear hD5 hE5 hK5 d4
    gi_wp2
    refine ⟨⟨Nat.le_trans F4.out.size K5.out.size, fun j o hB hj ho => K5.out.obj j o (F4.out.same j o hB hj ho) ho.1 ho.2⟩, ⟨⟨v5, p5, dp', xp', ?_, E5.out⟩, K5.out.blk _ _ _ C3.out (by decide), K5.out.blk _ _ _ C4.out (by decide)⟩, ⟨K5.out.blk _ _ _ S4.out.1 (by decide), K5.out.blk _ _ _ S4.out.2.1 (by decide), K5.out.blk _ _ _ S4.out.2.2 (by decide)⟩⟩
    rw [HOS.out, HOo.out]
    exact D5.out
 case hdone =>
  intro D W hD hI hK
  obtain ⟨v, p, dp, xp, hDk, hEv⟩ := hI.ex
  have c3 := (show Boxed W (w.heap.size + 1) _ _ from hI.k3).cell
  have HS := yH (dsk_string hDk (by have := HO.out.2.1 ls.length; omega))
  have HDk := yH hDk.low
  clear hI hDk hEv
  gi_wp2
  refine ⟨trivial, (callsIn_wide.2 HS.out).mono ?_⟩
  rintro e W5 ⟨rfl, hb, ho⟩
  have hK5 := ho D _ hK rfl
  have HB5 := yH (HDk.out.trans hb)
  clear c3 hb ho hK
  gi_wp2
  refine ⟨by simp, .inl ⟨_, _, rfl, run_takeDeferred hK5, ?_⟩⟩
  refine ⟨_, ?_, rfl, ?_⟩
  ·simp [results, Tryz.f6, go_sem]
  ·exact bl_g HB5.out (grownBy_putObj' _ D _) (by have := HG.out; omega)
end Go.Proofs.YtffalfacakdhkaaGreatDoor
