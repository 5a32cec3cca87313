/-
  what this claim needs of: DkC4, DkC5, DkI8 (written by cut.py).
-/
import Derived.Test.YtffalfacakdhkaaGreatDoorDDkI4
import Derived.Test.YtffalfacakdhkaaGreatDoorDDkI6
namespace Go.Proofs.YtffalfacakdhkaaGreatDoor
open Go.RowKit Go.Maps Go.Shelf
set_option linter.unusedVariables false
set_option linter.unusedSimpArgs false
theorem built_geo : Tryz.prog.built 66 [(0, .int .i64 64), (1, .int .i64 4), (2, .int .i64 32), (3, .int .i64 1), (4, .int .i64 8)] = some (geC geS).toArray := by kernel_rfl
theorem nin2 {b r s : Nat} (h : b ≠ r) (k : b ≠ s) : b ∉ [r, s] := by simp [h, k]
theorem DkIs.nin {W : World} {d sb ob n g : Nat} {S O : SM} {t : TypeId} {cs : Array Value} (h : DkIs W d sb ob n S O) (hb : Blk W g t cs) : g ∉ [sb, ob] := nin2 (blk_ne_mapD h.safe hb) (blk_ne_mapD h.opn hb)
theorem DkIs.kp {W W' : World} {d sb ob n : Nat} {S O : SM} (h : DkIs W d sb ob n S O) (hT : Tch [sb, ob] W W') : KpL W W' :=
 KpL.tch hT (fun g t cs hb _ => h.nin hb) (fun g o ho hc hm hk => by
  simp only [List.mem_cons, List.not_mem_nil, or_false] at hk
  rcases hk with rfl | rfl
  ·obtain ⟨es, c, e⟩ := h.safe.objD
   rw [e] at ho
   injection ho with ho
   exact hm _ _ ho.symm
  ·obtain ⟨es, c, e⟩ := h.opn.objD
   rw [e] at ho
   injection ho with ho
   exact hm _ _ ho.symm)
section
variable {w0 W : World} {db : Nat} {v p : Value} {out : List UInt8} {dp xp : Value} {n : Int}
theorem DkA.drew (h : DkA w0 W db v p out dp xp n) : DkA w0 W.drew db v p out dp xp n := h.below (Below.refl _ W).drew
theorem dsk_img (h : DkA w0 W db v p out dp xp n) {d sb ob : Nat} (he : EDev w0 400 d sb ob v W) : Calls Tryz.prog 35 #[.pointer (some ⟨d, 0, none⟩), .agg (geC geS).toArray] W fun e w' => ∃ i N, e = .returned (.tuple #[.pointer (some ⟨i.x, 0, none⟩), .int .i64 0]) ∧ N ≤ 100 ∧ DkA w0 w' db v p out dp xp n ∧ EImg w0 i N 0 hdZ1 [] v w' ∧ KpL W w' ∧ Tch [sb, ob] W w' := by
 have hg : ∀ g, (mkV v).default.1 g → g < W.heap.size := fun g hg => by
  obtain ⟨cs, hb⟩ := h.row g hg
  exact hb.lt
 refine (@im_format (mkV v) W d sb ob he.2 hg).mono ?_
 rintro e w' ⟨v2, N, rfl, hN, i, rfl, h1, h2, h3, hI, hT, hk⟩
 have hlow := h.low.size
 refine ⟨i, N, rfl, hN, h.tch hT (he.2.nin h.blk) (fun g hg => ?_) (fun k hk => ?_), ⟨fun k hk2 => ?_, hI⟩, he.2.kp hT, hT⟩
 ·obtain ⟨cs, hb⟩ := h.row g hg
  exact he.2.nin hb
 ·have := he.1
  simp at hk
  omega
 ·have h4 := hk k hk2
  have := he.1
  omega
set_option maxRecDepth 100000 in
set_option maxHeartbeats 1000000 in
theorem dsk_format (ht : LnT w0) {d sb ob : Nat} (h : DkA w0 W db v p out (.pointer (some ⟨d, 0, none⟩)) xp n) (he : EDev w0 400 d sb ob v W) (hl : out.length ≤ 80000000) {A : Option Addr} {B c : Nat} (hO : W.ownsRow B 3 1 (.slice A 5 c) 5 ([64, 4, 32, 1, 8].map (Value.int .i64))) :
  Calls Tryz.prog 21 #[.pointer (some ⟨db, 0, none⟩), .slice A 5 c] W fun e w' => e = .returned (.int .i64 0) ∧ ∃ i N, N ≤ 100 ∧ WrtB (EImg w0 i N 0 hdZ1 []) w0 db (out ++ okL) (.pointer (some ⟨d, 0, none⟩)) (.pointer (some ⟨i.x, 0, none⟩)) n W w' := by
 have H := yH h
 have HE := yH he
 obtain ⟨g, cap, hv, _⟩ := hO.form (by omega)
 injection hv with hA _ hc
 subst hA
 subst hc
 have hc : ∀ j (hj : j < 5), W.cell? ⟨g, j, none⟩ = some (.int .i64 (([64, 4, 32, 1, 8] : List Int)[j]'hj)) := fun j hj => own_int_cell hO hj
 have HT := yH ht
 have HL := yH hl
 obtain ⟨cs, hbg⟩ := own_obj hO (b := g) rfl
 have HG := yH (show Blk W g 3 cs from hbg)
 have HF := yH (dsk_img h.drew (show EDev w0 400 d sb ob v W.drew from (EDev.ok w0 400 d sb ob).below he (Below.refl _ W).drew))
 have hS : W.cell? ⟨db, 2, none⟩ = some (.pointer (some ⟨d, 0, none⟩)) ∧ W.cell? ⟨g, 0, none⟩ = some (.int .i64 64) ∧ W.cell? ⟨g, 1, none⟩ = some (.int .i64 4) ∧ W.cell? ⟨g, 2, none⟩ = some (.int .i64 32) ∧ W.cell? ⟨g, 3, none⟩ = some (.int .i64 1) ∧ W.cell? ⟨g, 4, none⟩ = some (.int .i64 8) :=
  ⟨h.blk.cell rfl, hc 0 (by omega), hc 1 (by omega), hc 2 (by omega), hc 3 (by omega), hc 4 (by omega)⟩
 have HS := yH hS
 clear h ht hl hO he hc hS hbg
 go_enter Tryz.func21, Tryz.ntmps21
 go_upto_region 3 with fail
 refine wp_region_qs (fun _ w' => w'.cell? ⟨db, 2, none⟩ = some (.pointer (some ⟨d, 0, none⟩)) ∧ w'.cell? ⟨g, 0, none⟩ = some (.int .i64 64) ∧ w'.cell? ⟨g, 1, none⟩ = some (.int .i64 4) ∧ w'.cell? ⟨g, 2, none⟩ = some (.int .i64 32) ∧ w'.cell? ⟨g, 3, none⟩ = some (.int .i64 1) ∧ w'.cell? ⟨g, 4, none⟩ = some (.int .i64 8)) [(0, some 1), (1, some 1), (2, some 1), (3, some 0), (4, some 1), (5, some 1), (6, some 1), (7, some 1), (8, some 1), (9, some 1), (10, some 1), (11, some 1), (12, some 1), (13, some 1), (14, some 1), (15, some 1), (16, some 1), (17, some 1), (18, some 1), (19, some 0), (20, none), (21, some 1), (22, some 1), (23, some 1), (24, some 1), (25, some 1)] (by kernel_rfl) (by kernel_rfl) (by kernel_rfl) (by kernel_rfl) (by kernel_rfl) (fun _ _ _ _ _ h => h) HS.out ?_
 simp only [yD, yE, yF, yG]
 (repeat (first | ((refine qs_mk (by rfl) 66 _ (by rfl) [(0, .int .i64 64), (1, .int .i64 4), (2, .int .i64 32), (3, .int .i64 1), (4, .int .i64 8)] (by rfl) (geC geS).toArray built_geo ?_); simp only [Act.put, yA, yB, yC]) | (refine qs_mid (v := ?_) (by rfl) ?_ ?_; rotate_left 1; (· (intro j w' hj1 hj2 hS; go_simp; (try (simp only [↓IntWalk.iteOmega]; go_simp)); (try simp (disch := omega) only [IntWalk.i64_in]); try with_reducible rfl)); simp only [Act.put, yA, yB, yC]) | (refine qs_skip (by rfl) ?_; simp only [Act.put, yA, yB, yC])))
 refine qs_act ?_
 go_wp2_with (go_at_call 35; refine HF.out.mono ?_; rintro e w1 ⟨i, N, rfl, hN, hA, hE, hK, hT⟩; have A1 := yH hA; have E1 := yH hE; have K1 := yH hK; have T1 := yH hT; have N1 := yH hN; clear hA hE hK hT hN)
 refine ⟨⟨A1.out.blk.cell rfl, ?_⟩, ?_⟩
 ·have hk : ∀ j z, W.cell? ⟨g, j, none⟩ = some z → w1.cell? ⟨g, j, none⟩ = some z := fun j z hz => by
   rw [← hz]
   refine World.cell?_of_block (a := ⟨g, j, none⟩) ?_
   exact (K1.out.blk _ _ _ HG.out.drew (by decide)).trans HG.out.symm
  exact ⟨hk _ _ HS.out.2.1, hk _ _ HS.out.2.2.1, hk _ _ HS.out.2.2.2.1, hk _ _ HS.out.2.2.2.2.1, hk _ _ HS.out.2.2.2.2.2⟩
 (repeat (first | (refine qs_mid (v := ?_) (by rfl) ?_ ?_; rotate_left 1; (· (intro j w' hj1 hj2 hS; go_simp; (try (simp only [↓IntWalk.iteOmega]; go_simp)); (try simp (disch := omega) only [IntWalk.i64_in]); try with_reducible rfl)); simp only [Act.put, yA, yB, yC]) | (refine qs_skip (by rfl) ?_; simp only [Act.put, yA, yB, yC])))
 refine qs_nil ?_
 clear HS HF HG T1
 go_wp2_with (first
  | (refine wpl_setD rfl 35 (.tmp 37) (.tmp 35) (by rfl) db 3 (.pointer (some ⟨i.x, 0, none⟩)) (by rfl) (by rfl) _ _ A1.out.blk info_pim (by show 3 < 5; omega) (by rfl) (by rfl) ?_; intro w3 hb hg hz; have A3 := yH (A1.out.setBlk hb (Tch.one hg) A1.out.self); have E3 := yH ((EImg.ok w0 i N 0 hdZ1 []).alien E1.out A1.out.alien (Tch.one hg)); have K3 := yH (((KpL.below (Below.refl _ W).drew).trans K1.out).trans (KpL.one A1.out.blk (by decide) (Tch.one hg))); clear hb hg hz; simp only [Act.put, yA, yB, yC])
  | (refine wpl_mk rfl 70 #[(0, .tmp 39)] (by rfl) [(0, .int .i64 0)] (by rfl) _ (built_taleE 0) ?_; simp only [Act.put, yA, yB, yC])
  | (go_at_call 26; refine (dsk_tell0 (EImg.ok w0 i N 0 hdZ1 []) HT.out A3.out E3.out (by have := HL.out; omega) 0 (by omega) _ t_ok (by simp)).mono ?_; rintro e w4 ⟨rfl, hw⟩; have W4 := yH hw; clear hw))
 go_ret
 obtain ⟨v', p', h1, h2, h3⟩ := W4.out
 exact ⟨rfl, i, N, N1.out, v', p', h1, h2, K3.out.trans h3⟩
end
end Go.Proofs.YtffalfacakdhkaaGreatDoor
namespace Go.Proofs.YtffalfacakdhkaaGreatDoor
open Go.RowKit Go.Maps Go.Shelf
set_option linter.unusedVariables false
set_option linter.unusedSimpArgs false
def cvS (x : Nat × List Nat) : Value := .func (.func x.1) #[] (x.2.map (fun b => Value.pointer (some ⟨b, 0, none⟩))).toArray
theorem keyOf_kvS {n : Int} (h : 0 ≤ n ∧ n < 256) : keyOf Tryz.prog 58 (kvU n) = some (klU n) := keyOf_int_mk Tryz.underlying58 (u8_wf' h)
theorem keyed_sk : Keyed Tryz.prog 58 := int_keyed Tryz.underlying58
def stepM (b2 b3 b4 : Nat) : List (Int × (Nat × List Nat)) := aput (aput (aput (aput (aput (aput (aput (aput (aput (aput (aput (aput ([]) 1 (41, [b2, b3, b4])) 2 (43, [b2, b3, b4])) 3 (45, [b2, b3, b4])) 4 (47, [b2, b4])) 5 (49, [b2, b4])) 6 (51, [b2, b3, b4])) 7 (53, [b2, b3, b4])) 8 (55, [b2, b3, b4])) 9 (57, [b2, b3, b4])) 12 (59, [b2, b4])) 11 (61, [b2, b3])) 10 (63, [b2, b3])
def taleZ : Array Value := taleV 0 0 (.slice none 0 0) 0 0 0 0 0 0 0 0 0 (.slice none 0 0)
theorem taleZ_info : (Tryz.prog.info? 70).map (·.size) = some 13 := by kernel_rfl
theorem stepVs_info (y : StepV) (B F : Value) : (Tryz.prog.info? 61).map (·.size) = some (stepVs y B F).size := by kernel_rfl
set_option maxRecDepth 100000 in
set_option maxHeartbeats 2000000 in
theorem dsk_step {W : World} {db : Nat} (y : StepV) (SB SF : Value) (hkd : 0 ≤ y.kind ∧ y.kind < 256) (f : FuncId) (cl : Nat → Nat → Nat → List Nat) (hget : ∀ b2 b3 b4, aget (stepM b2 b3 b4) y.kind = some (f, cl b2 b3 b4))
  (fn : Func) (code : Code) (hf : Tryz.prog.funcs[f]? = some fn) (hname : (fn.name == "runtime.NumGoroutine") = false) (hb : fn.body = some code) (P : Array Value → World → Prop) (hP : ∀ T w w' b, P T w → Blk w b 70 T → W.heap.size ≤ b → Tch [b] w w' → P T w')
  (hcall : ∀ (W1 : World) (b2 b3 b4 : Nat), Below W.heap.size W W1 → W.heap.size ≤ b4 → Blk W1 b2 30 #[.pointer (some ⟨db, 0, none⟩)] → Blk W1 b3 61 (stepVs y SB SF) → Blk W1 b4 70 taleZ →
   Calls Tryz.prog f ((cl b2 b3 b4).map (fun b => Value.pointer (some ⟨b, 0, none⟩))).toArray W1 fun e w' => (∃ r, e = .returned r) ∧ ∃ T, T.size = 13 ∧ (∀ v ∈ T.toList, v.oneCell' = true) ∧ Blk w' b4 70 T ∧ P T w') :
  Calls Tryz.prog 27 #[.pointer (some ⟨db, 0, none⟩), .agg (stepVs y SB SF)] W fun e w' => ∃ T, e = .returned (.agg T) ∧ P T w' := by
 have hmm := @run_makeMap Tryz.prog
 have HEnt := yH (fun args W => enter_run (P := Tryz.prog) hf hname hb args W)
 have HC := yH hcall
 have HG := yH hget
 have HPP := yH hP
 have HK := yH hkd
 have HI := yH (stepVs_info y SB SF)
 obtain ⟨sv, hsv⟩ : ∃ sv, sv = stepVs y SB SF := ⟨_, rfl⟩
 have hs0 : sv[0]? = some (.int .u8 y.kind) := by rw [hsv]; rfl
 rw [← hsv] at HC HI ⊢
 have HS0 := yH hs0
 clear hf hname hb hcall hget hP hkd hsv hs0
 go_enter Tryz.func27, Tryz.ntmps27
 go_upto_region 1 with (first
  | (refine wpl_boxD rfl 30 (.tmp 0) rfl (.pointer (some ⟨db, 0, none⟩)) rfl rfl ?_; intro w2 hk hg hz; have B2 := yH hk; have L2 := yH (bl_n (Below.refl _ W) hg); clear hk hg hz; simp only [Act.put, yA, yB, yC])
  | (refine wpl_box rfl 61 (.tmp 1) rfl _ rfl ?_; intro w3 hk hg hz; have B3 := yH (show Blk w3 w2.heap.size 61 sv from hk); have L3 := yH (bl_n (Below.refl _ w2) hg); clear hk hg hz; simp only [Act.put, yA, yB, yC])
  | (refine wpl_alloc_zero rfl 70 (by rfl) Tryz.zeroValue70 ?_; intro w4 hk hg hz; have B4 := yH (show Blk w4 w3.heap.size 70 taleZ from hk); have L4 := yH (bl_n (Below.refl _ w3) hg); clear hk hg hz; simp only [Act.put, yA, yB, yC]))
 have L24 := yH (below_chain L3.out L4.out)
 have L04 := yH (below_chain L2.out L24.out)
 have C2 := yH (B2.out.below L24.out B2.out.lt)
 have C3 := yH (B3.out.below L4.out B3.out.lt)
 have GE := yH (show W.heap.size ≤ w3.heap.size from (below_chain L2.out L3.out).size)
 obtain ⟨b2, hb2⟩ : ∃ b, b = W.heap.size := ⟨_, rfl⟩
 obtain ⟨b3, hb3⟩ : ∃ b, b = w2.heap.size := ⟨_, rfl⟩
 obtain ⟨b4, hb4⟩ : ∃ b, b = w3.heap.size := ⟨_, rfl⟩
 rw [← hb2] at C2
 rw [← hb3] at C3
 rw [← hb4] at B4
 simp only [← hb2, ← hb3, ← hb4]
 have GE4 := yH (show W.heap.size ≤ b4 by rw [hb4]; exact GE.out)
 clear B2 B3 L2 L3 L4 L24 hb2 hb3 hb4 GE
 go_upto_region 2 with (first
  | (refine wpl_mins rfl 103 (.tmp 6) (.const (.int .u8 10)) (.tmp 18) rfl keyed_sk Tryz.underlying103 D11.out (of_decide_eq_true (by kernel_rfl)) rfl (10 : Int) rfl (63, [b2, b3]) rfl (klU_inj _) (keyOf_kvS (by omega)) ?_; intro wd12 hm hg; have D12 := yH hm; have GD12 := yH hg; clear hm hg)
  | (refine wpl_mins rfl 103 (.tmp 6) (.const (.int .u8 11)) (.tmp 17) rfl keyed_sk Tryz.underlying103 D10.out (of_decide_eq_true (by kernel_rfl)) rfl (11 : Int) rfl (61, [b2, b3]) rfl (klU_inj _) (keyOf_kvS (by omega)) ?_; intro wd11 hm hg; have D11 := yH hm; have GD11 := yH hg; clear hm hg)
  | (refine wpl_mins rfl 103 (.tmp 6) (.const (.int .u8 12)) (.tmp 16) rfl keyed_sk Tryz.underlying103 D9.out (of_decide_eq_true (by kernel_rfl)) rfl (12 : Int) rfl (59, [b2, b4]) rfl (klU_inj _) (keyOf_kvS (by omega)) ?_; intro wd10 hm hg; have D10 := yH hm; have GD10 := yH hg; clear hm hg)
  | (refine wpl_mins rfl 103 (.tmp 6) (.const (.int .u8 9)) (.tmp 15) rfl keyed_sk Tryz.underlying103 D8.out (of_decide_eq_true (by kernel_rfl)) rfl (9 : Int) rfl (57, [b2, b3, b4]) rfl (klU_inj _) (keyOf_kvS (by omega)) ?_; intro wd9 hm hg; have D9 := yH hm; have GD9 := yH hg; clear hm hg)
  | (refine wpl_mins rfl 103 (.tmp 6) (.const (.int .u8 8)) (.tmp 14) rfl keyed_sk Tryz.underlying103 D7.out (of_decide_eq_true (by kernel_rfl)) rfl (8 : Int) rfl (55, [b2, b3, b4]) rfl (klU_inj _) (keyOf_kvS (by omega)) ?_; intro wd8 hm hg; have D8 := yH hm; have GD8 := yH hg; clear hm hg)
  | (refine wpl_mins rfl 103 (.tmp 6) (.const (.int .u8 7)) (.tmp 13) rfl keyed_sk Tryz.underlying103 D6.out (of_decide_eq_true (by kernel_rfl)) rfl (7 : Int) rfl (53, [b2, b3, b4]) rfl (klU_inj _) (keyOf_kvS (by omega)) ?_; intro wd7 hm hg; have D7 := yH hm; have GD7 := yH hg; clear hm hg)
  | (refine wpl_mins rfl 103 (.tmp 6) (.const (.int .u8 6)) (.tmp 12) rfl keyed_sk Tryz.underlying103 D5.out (of_decide_eq_true (by kernel_rfl)) rfl (6 : Int) rfl (51, [b2, b3, b4]) rfl (klU_inj _) (keyOf_kvS (by omega)) ?_; intro wd6 hm hg; have D6 := yH hm; have GD6 := yH hg; clear hm hg)
  | (refine wpl_mins rfl 103 (.tmp 6) (.const (.int .u8 5)) (.tmp 11) rfl keyed_sk Tryz.underlying103 D4.out (of_decide_eq_true (by kernel_rfl)) rfl (5 : Int) rfl (49, [b2, b4]) rfl (klU_inj _) (keyOf_kvS (by omega)) ?_; intro wd5 hm hg; have D5 := yH hm; have GD5 := yH hg; clear hm hg)
  | (refine wpl_mins rfl 103 (.tmp 6) (.const (.int .u8 4)) (.tmp 10) rfl keyed_sk Tryz.underlying103 D3.out (of_decide_eq_true (by kernel_rfl)) rfl (4 : Int) rfl (47, [b2, b4]) rfl (klU_inj _) (keyOf_kvS (by omega)) ?_; intro wd4 hm hg; have D4 := yH hm; have GD4 := yH hg; clear hm hg)
  | (refine wpl_mins rfl 103 (.tmp 6) (.const (.int .u8 3)) (.tmp 9) rfl keyed_sk Tryz.underlying103 D2.out (of_decide_eq_true (by kernel_rfl)) rfl (3 : Int) rfl (45, [b2, b3, b4]) rfl (klU_inj _) (keyOf_kvS (by omega)) ?_; intro wd3 hm hg; have D3 := yH hm; have GD3 := yH hg; clear hm hg)
  | (refine wpl_mins rfl 103 (.tmp 6) (.const (.int .u8 2)) (.tmp 8) rfl keyed_sk Tryz.underlying103 D1.out (of_decide_eq_true (by kernel_rfl)) rfl (2 : Int) rfl (43, [b2, b3, b4]) rfl (klU_inj _) (keyOf_kvS (by omega)) ?_; intro wd2 hm hg; have D2 := yH hm; have GD2 := yH hg; clear hm hg)
  | (refine wpl_mins rfl 103 (.tmp 6) (.const (.int .u8 1)) (.tmp 7) rfl keyed_sk Tryz.underlying103 (MapIs.made w4 Tryz.prog _ kvU klU cvS) (of_decide_eq_true (by kernel_rfl)) rfl (1 : Int) rfl (41, [b2, b3, b4]) rfl (klU_inj _) (keyOf_kvS (by omega)) ?_; intro wd1 hm hg; have D1 := yH hm; have GD1 := yH hg; clear hm hg))
 have MD := yH (show MapIs Tryz.prog 58 kvU klU cvS wd12 w4.heap.size (stepM b2 b3 b4) from D12.out)
 have LD := yH (show Below w4.heap.size w4 wd12 from (bl_g (bl_g (bl_g (bl_g (bl_g (bl_g (bl_g (bl_g (bl_g (bl_g (bl_g (bl_g ((Below.refl _ w4).alloc (Nat.le_refl _) _) GD1.out (Nat.le_refl _)) GD2.out (Nat.le_refl _)) GD3.out (Nat.le_refl _)) GD4.out (Nat.le_refl _)) GD5.out (Nat.le_refl _)) GD6.out (Nat.le_refl _)) GD7.out (Nat.le_refl _)) GD8.out (Nat.le_refl _)) GD9.out (Nat.le_refl _)) GD10.out (Nat.le_refl _)) GD11.out (Nat.le_refl _)) GD12.out (Nat.le_refl _)))
 clear D1 GD1 D2 GD2 D3 GD3 D4 GD4 D5 GD5 D6 GD6 D7 GD7 D8 GD8 D9 GD9 D10 GD10 D11 GD11 D12 GD12
 have L5 := yH (below_chain L04.out LD.out)
 have E2 := yH (C2.out.below LD.out C2.out.lt)
 have E3 := yH (C3.out.below LD.out C3.out.lt)
 have E4 := yH (B4.out.below LD.out B4.out.lt)
 clear C2 C3 B4 LD L04
 have k0 : wd12.cell? ⟨b3, 0, none⟩ = some (.int .u8 y.kind) := E3.out.cell HS0.out
 have HFn := yH (show ((aget (stepM b2 b3 b4) y.kind).map cvS).getD .nilFunc = .func (.func f) #[] ((cl b2 b3 b4).map (fun b => Value.pointer (some ⟨b, 0, none⟩))).toArray by rw [HG.out]; rfl)
 go_wp2_with (refine wpl_mlook rfl 103 (.tmp 20) (.tmp 22) rfl keyed_sk Tryz.underlying103 MD.out rfl y.kind rfl Tryz.zeroValue1 (klU_inj _) (keyOf_kvS HK.out) ?_; rewrite [HFn.out])
 rw [HEnt.out]
 rw [Oper.upon_enter]
 refine (HC.out wd12 b2 b3 b4 L5.out GE4.out E2.out E3.out E4.out).mono ?_
 rintro e w5 ⟨⟨r, rfl⟩, T, hsz, h1, hT, hp⟩
 have T5 := yH hT
 have P5 := yH hp
 have S5 := yH hsz
 have O5 := yH h1
 have TI := yH (show (Tryz.prog.info? 70).map (·.size) = some T.toList.length by rw [Array.length_toList, hsz]; exact taleZ_info)
 clear hsz h1 hT hp MD HFn L5 E2 E3 E4 k0 HC HG HI
 go_wp2_with (first
  | (refine wpl_load_blk rfl 70 (.tmp 4) (by rfl) b4 (by rfl) _ _ T5.out _ Tryz.underlying70 rfl 13 taleZ_info S5.out ?_; simp only [Act.put, yA, yB, yC])
  | (refine wpl_over rfl 70 (.tmp 4) (.tmp 25) (by rfl) b4 T.toList (by rfl) (by rw [Array.toArray_toList]; rfl) _ T T5.out TI.out (by rw [Array.length_toList]) O5.out ?_; intro w6 hb hg hz; have B6 := yH (show Blk w6 b4 70 T by rw [Array.toArray_toList] at hb; exact hb); have T6 := yH (Tch.one hg); clear hb hg hz; simp only [Act.put, yA, yB, yC]))
 refine bodyPost_ret (results_blk rfl _ b4 rfl _ _ B6.out _ Tryz.underlying70 rfl 13 taleZ_info S5.out) rfl ?_
 exact ⟨T, rfl, HPP.out _ _ _ _ P5.out T5.out GE4.out T6.out⟩
end Go.Proofs.YtffalfacakdhkaaGreatDoor
namespace Go.Proofs.YtffalfacakdhkaaGreatDoor
open Go.RowKit Go.Maps Go.Shelf
set_option linter.unusedVariables false
set_option linter.unusedSimpArgs false
section
variable {W : World} {i : ImI} {N q : Nat} {Y : Hd} {M : SnM}
set_option maxRecDepth 100000 in
theorem im_read0 [gm : Inhabited GMk] (h : ImIs W i N q Y M) : Calls Tryz.prog 98 #[.pointer (some ⟨i.x, 0, none⟩), .int .i64 0, .int .i64 0, .int .i64 0] W fun e w' => e = .returned (.tuple #[.slice none 0 0, .int .i64 0]) ∧ W = w' := by
 have H := yH h
 clear h
 go_enter Tryz.func98, Tryz.ntmps98
 go_wp2_with (go_at_call 100; refine (im_within H.out (by rw [H.out.geo]; rfl)).mono ?_; rintro e w1 ⟨rfl, rfl⟩)
 go_loopg [10, 11] 0 (fun (k : Nat) v iv wk => v = .slice none 0 0 ∧ iv = .int .i64 0 ∧ wk = W)
 ·exact ⟨rfl, rfl, rfl⟩
 ·obtain ⟨rfl, rfl, rfl⟩ := hrel
  go_wp2
  go_ret2
  exact ⟨rfl, rfl⟩
set_option maxRecDepth 100000 in
theorem im_read1 [gm : Inhabited GMk] (h : ImIs W i N q Y M) {a b c d : Nat} (ha : Blk W a 35 #[.pointer (some ⟨i.x, 0, none⟩)]) (hb : Blk W b 3 #[.int .i64 0]) (hc : Blk W c 3 #[.int .i64 0]) (hd : Blk W d 25 #[.slice none 0 0]) :
  Calls Tryz.prog 97 #[.pointer (some ⟨a, 0, none⟩), .pointer (some ⟨b, 0, none⟩), .pointer (some ⟨c, 0, none⟩), .pointer (some ⟨d, 0, none⟩)] W fun e w' => ∃ r, e = .returned (.int .i64 r) ∧ r ≠ 9 ∧ r = 0 ∧ Blk w' d 25 #[.slice none 0 0] ∧ Tch [d] W w' := by
 have H := yH h
 have HD := yH hd
 have a0 : W.cell? ⟨a, 0, none⟩ = some (.pointer (some ⟨i.x, 0, none⟩)) := ha.cell rfl
 have b0 : W.cell? ⟨b, 0, none⟩ = some (.int .i64 0) := hb.cell rfl
 have c0 : W.cell? ⟨c, 0, none⟩ = some (.int .i64 0) := hc.cell rfl
 clear h ha hb hc hd
 go_enter Tryz.func97, Tryz.ntmps97
 go_wp2_with (first
  | (go_at_call 98; refine (im_read0 H.out).mono ?_; rintro e w1 ⟨rfl, rfl⟩)
  | (refine wpl_setD rfl 25 (.tmp 3) (.tmp 11) (by rfl) d 0 (.slice none 0 0) (by rfl) (by rfl) _ _ HD.out info_sl (by show 0 < 1; omega) (by rfl) (by rfl) ?_; intro w5 hb hg hz; have B5 := yH (show Blk w5 d 25 #[.slice none 0 0] from hb); have T5 := yH (Tch.one hg); clear hb hg hz; simp only [Act.put, yA, yB, yC]))
 go_ret
 exact ⟨0, rfl, by omega, rfl, B5.out, T5.out⟩
set_option maxRecDepth 100000 in
set_option maxHeartbeats 1000000 in
theorem im_Read [gm : Inhabited GMk] (h : ImIs W i N q Y M) :
  Calls Tryz.prog 42 #[.pointer (some ⟨i.x, 0, none⟩), .int .i64 0, .int .i64 0] W fun e w' => e = .returned (.tuple #[.slice none 0 0, .int .i64 0]) ∧ Below W.heap.size W w' := by
 have H := yH h
 clear h
 go_enter Tryz.func42, Tryz.ntmps42
 go_wp2_with (first
   | (refine wpl_boxD rfl 35 (.tmp 0) rfl (.pointer (some ⟨i.x, 0, none⟩)) rfl rfl ?_; intro w1 hk hg hz; have A1 := yH hk; have L1 := yH (bl_n (Below.refl _ W) hg); clear hk hg hz; simp only [Act.put, yA, yB, yC])
   | (refine wpl_boxD rfl 3 (.tmp 1) rfl (.int .i64 0) rfl rfl ?_; intro w2 hk hg hz; have B2 := yH hk; have L2 := yH (bl_n (Below.refl w1.heap.size w1) hg); clear hk hg hz; simp only [Act.put, yA, yB, yC])
   | (refine wpl_boxD rfl 3 (.tmp 2) rfl (.int .i64 0) rfl rfl ?_; intro w3 hk hg hz; have C3 := yH hk; have L3 := yH (bl_n (Below.refl w2.heap.size w2) hg); clear hk hg hz; simp only [Act.put, yA, yB, yC])
   | (refine wpl_allocD rfl 25 (by rfl) (.slice none 0 0) Tryz.zeroValue25 rfl ?_; intro w4 hk hg hz; have D4 := yH hk; have L4 := yH (bl_n (Below.refl w3.heap.size w3) hg); have L34 := yH (below_chain L3.out L4.out); have L24 := yH (below_chain L2.out L34.out); have L04 := yH (below_chain L1.out L24.out); have A4 := yH (A1.out.below L24.out A1.out.lt); have B4 := yH (B2.out.below L34.out B2.out.lt); have C4 := yH (C3.out.below L4.out C3.out.lt); have a4 : w4.cell? ⟨W.heap.size, 0, none⟩ = some (.pointer (some ⟨i.x, 0, none⟩)) := A4.out.cell rfl; clear hk hg hz; simp only [Act.put, yA, yB, yC])
   | (go_at_call 88; refine (im_do (H.out.below L04.out) _ _ _ Tryz.func97 (by kernel_rfl) rfl _ (fun r w' => r = 0 ∧ Blk w' w3.heap.size 25 #[.slice none 0 0] ∧ Tch [w3.heap.size] w4 w') (im_read1 (H.out.below L04.out) A4.out B4.out C4.out D4.out)).mono ?_; rintro e w5 ⟨r, rfl, rfl, hB, hT⟩; have D5 := yH hB; have T5 := yH hT; have b5 : w5.cell? ⟨w3.heap.size, 0, none⟩ = some (.slice none 0 0) := hB.cell rfl; clear hB hT)
   | (refine wpl_setD rfl 25 (.tmp 6) (.tmp 11) (by rfl) w3.heap.size 0 (.slice none 0 0) (by rfl) (by rfl) _ _ D5.out info_sl (by show 0 < 1; omega) (by rfl) (by rfl) ?_; intro w6 hb hg hz; have D6 := yH (show Blk w6 w3.heap.size 25 #[.slice none 0 0] from hb); have T6 := yH (Tch.one hg); have b6 : w6.cell? ⟨w3.heap.size, 0, none⟩ = some (.slice none 0 0) := D6.out.cell rfl; clear hb hg hz))
 have h1 := L1.out.size
 have h2 := L2.out.size
 have h3 := L3.out.size
 refine bodyPost_ret (v := .tuple #[.slice none 0 0, .int .i64 0]) (by simp [results, Tryz.f42, go_sem, b6]) rfl ⟨rfl, ?_⟩
 exact L04.out.trans ((T5.out.trans T6.out).toBelow L04.out.size (fun k hk => by rw [List.mem_singleton.1 hk]; omega))
end
end Go.Proofs.YtffalfacakdhkaaGreatDoor
