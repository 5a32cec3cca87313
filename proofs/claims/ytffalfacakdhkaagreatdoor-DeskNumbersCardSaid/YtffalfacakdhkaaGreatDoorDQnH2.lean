/-
  what this claim needs of: QnH2, QnH4, QnH6, QnN1, QnN2, QnN3 (written by cut.py).
-/
import Derived.Test.YtffalfacakdhkaaGreatDoorDQnF4
namespace Go.Proofs.YtffalfacakdhkaaGreatDoor
open Go.RowKit Go.Maps
set_option linter.unusedVariables false
set_option linter.unusedSimpArgs false
def nbL (h : Hd) : List Int := [h.geo.vir, h.geo.segs, h.geo.seg, h.geo.uni, h.geo.jou, h.pages, h.root, h.snap]
def nbZ (h : Hd) (i : Nat) : Nat := ((nbL h).getD i 0).toNat
def nbO (i : Nat) : Nat := if i < 5 then i else i + 1
def hdB (h : Hd) (k : Nat) : List Int := (List.range k).flatMap fun i => beL (nbZ h i) 4
theorem hdB_succ (h : Hd) (k : Nat) : hdB h (k + 1) = hdB h k ++ beL (nbZ h k) 4 := by
 unfold hdB
 rw [List.range_succ, List.flatMap_append]
 simp
theorem hdB_len (h : Hd) (k : Nat) : (hdB h k).length = 4 * k := by
 induction k with
 | zero => rfl
 | succ k ih => rw [hdB_succ, List.length_append, ih, beL_len]; omega
theorem hdB_bytes (h : Hd) (k : Nat) : ∀ z ∈ hdB h k, 0 ≤ z ∧ z < 256 := by
 intro z hz
 obtain ⟨i, _, hz⟩ := List.mem_flatMap.1 hz
 exact beL_bytes _ _ z hz
theorem HdOk.nb {h : Hd} (hh : HdOk h) {i : Nat} (hi : i < 8) : (hdC h)[nbO i]? = some (.int .i64 (nbZ h i : Int)) ∧ nbZ h i ≤ 1073741824 := by
 have h1 := hh.1.1
 have hp := h1.pages
 unfold FieldsP at h1
 obtain ⟨_, _, h2, h3, h4⟩ := hh
 have k : ∀ z : Int, 0 ≤ z → ((z.toNat : Nat) : Int) = z := fun z hz => by omega
 match i, hi with
 | 0, _ => exact ⟨by show some (Value.int .i64 h.geo.vir) = some (.int .i64 ((h.geo.vir.toNat : Nat) : Int)); rw [k _ (by omega)], by show h.geo.vir.toNat ≤ _; omega⟩
 | 1, _ => exact ⟨by show some (Value.int .i64 h.geo.segs) = some (.int .i64 ((h.geo.segs.toNat : Nat) : Int)); rw [k _ (by omega)], by show h.geo.segs.toNat ≤ _; omega⟩
 | 2, _ => exact ⟨by show some (Value.int .i64 h.geo.seg) = some (.int .i64 ((h.geo.seg.toNat : Nat) : Int)); rw [k _ (by omega)], by show h.geo.seg.toNat ≤ _; omega⟩
 | 3, _ => exact ⟨by show some (Value.int .i64 h.geo.uni) = some (.int .i64 ((h.geo.uni.toNat : Nat) : Int)); rw [k _ (by omega)], by show h.geo.uni.toNat ≤ _; omega⟩
 | 4, _ => exact ⟨by show some (Value.int .i64 h.geo.jou) = some (.int .i64 ((h.geo.jou.toNat : Nat) : Int)); rw [k _ (by omega)], by show h.geo.jou.toNat ≤ _; omega⟩
 | 5, _ => exact ⟨by show some (Value.int .i64 h.pages) = some (.int .i64 ((h.pages.toNat : Nat) : Int)); rw [k _ (by omega)], by show h.pages.toNat ≤ _; omega⟩
 | 6, _ => exact ⟨by show some (Value.int .i64 h.root) = some (.int .i64 ((h.root.toNat : Nat) : Int)); rw [k _ (by omega)], by show h.root.toNat ≤ _; omega⟩
 | 7, _ => exact ⟨by show some (Value.int .i64 h.snap) = some (.int .i64 ((h.snap.toNat : Nat) : Int)); rw [k _ (by omega)], by show h.snap.toNat ≤ _; omega⟩
theorem nbP_at (b i : Nat) (hi : i < 8) : (nbP b).toArray[i]? = some (.pointer (some ⟨b, nbO i, none⟩)) := by
 match i, hi with
 | 0, _ | 1, _ | 2, _ | 3, _ | 4, _ | 5, _ | 6, _ | 7, _ => rfl
theorem idx8 (b i : Nat) (hi : i < 8) (w : World) : (Instr.index 478 (.agg (nbP b).toArray) (.int .i64 (i : Int))).run Tryz.prog w = .ok (.pointer (some ⟨b, nbO i, none⟩)) w :=
 idx_arrP _ _ 8 _ _ i _ Tryz.underlying478 Tryz.sizeOf477 Tryz.isAgg477 hi (nbP_at b i hi) w
theorem beL4 (z : Nat) : bV (beL z 4) = [.int .u8 ((z : Int) / 16777216 % 256), .int .u8 ((z : Int) / 65536 % 256), .int .u8 ((z : Int) / 256 % 256), .int .u8 ((z : Int) % 256)] := by
 simp [bV, beL, List.range_succ]
structure HpI (w : World) (h : Hd) (f i : Nat) (v : Value) (W : World) : Prop where
 head : Blk W w.heap.size 123 (hdC h).toArray
 frm : Blk W f 359 #[.int .i64 1, .int .i64 h.num, .int .i64 0, v]
 row : W.ownsRow (f + 1) 5 1 v (4 * i) (bV (hdB h i))
 low : Below w.heap.size w W
 ge : w.heap.size < f
theorem own_tchP {w w' : World} {base n sz : Nat} {e : TypeId} {v : Value} {xs : List Value} {T : List Nat} (h : w.ownsRow base e sz v n xs) (hb : Tch T w w') (hT : ∀ b, v.ownBlock = some b → b ∉ T) : w'.ownsRow base e sz v n xs := by
 refine ⟨h.1, h.2.imp id ?_⟩
 rintro ⟨g, cap, cur, e1, a1, a2, r⟩
 have h3 : Blk w g e cur := a2
 exact ⟨g, cap, cur, e1, a1, h3.tch hb (hT g (by rw [e1]; rfl)), r⟩
theorem HpI.below {w : World} {h : Hd} {f i : Nat} {v : Value} {W W' : World} (H : HpI w h f i v W) (hb : Below W.heap.size W W') : HpI w h f i v W' :=
 ⟨H.head.below hb H.head.lt, H.frm.below hb H.frm.lt, own_below H.row hb, below_chain H.low hb, H.ge⟩
section
variable {w : World}
def HpL (w : World) (h : Hd) (f gk : Nat) (iv : Value) (W : World) : Prop := ∃ i v, iv = .int .i64 ((i : Nat) : Int) ∧ i + gk ≤ 8 ∧ 8 ≤ i + gk ∧ HpI w h f i v W
set_option maxRecDepth 100000 in
set_option maxHeartbeats 2000000 in
theorem hd_put {h : Hd} (hh : HdOk h) : Calls Tryz.prog 278 #[.agg (hdC h).toArray] w (FpPost w 1 h.num.toNat 0 (hdB h 8)) := by
 have HH := yH hh
 have hnb : 0 ≤ h.num ∧ h.num ≤ 1099511627776 := hh.2.1
 clear hh
 go_enter Tryz.func278, Tryz.ntmps278
 go_upto_region 5 with (first
  | (refine wpl_over rfl 359 (.tmp 4) (.tmp 12) (by rfl) w3.heap.size [.int .i64 1, .int .i64 h.num, .int .i64 0, .slice none 0 0] (by rfl) (by rfl) _ cs4 F4.out (fmC_info 0 0 0 none 0 0) (by rw [C4.out]; rfl) (by simp [Value.oneCell']) ?_; intro w5 hb hg hz; have F5 := yH hb; have K5 := yH (K4.out.grown hg (by have := K3.out.lt; simp; omega)); have L5 := yH (show Below w.heap.size w w5 from L4.out.grown hg L4.out.size (fun k hk => by injection hk with hk; have := K3.out.lt; omega)); clear hb hg hz)
  | (refine wpl_alloc rfl 359 (by rfl) Tryz.zeroValue359 4 (by rfl) ?_; intro w4 cs4 hk hc hg hz; have F4 := yH hk; have C4 := yH hc; have K4 := yH (K3.out.grown hg (by simp)); have L4 := yH (bl_n L3.out hg); clear hk hc hg hz c1 rg; simp only [Act.put, yA, yB, yC])
  | (go_at_call 340; refine (hd_numbers w.heap.size _).mono ?_; rintro e w6 ⟨rfl, hb⟩; have L6 := yH (below_chain L5.out hb); have F6 := yH (F5.out.below hb F5.out.lt); have K6 := yH (K5.out.below hb K5.out.lt); clear hb)
  | (go_at_call 339; refine (hd_right HH.out).mono ?_; rintro e w3 ⟨rfl, hb⟩; have L3 := yH (below_chain L.out hb); have K3 := yH (K.out.below hb K.out.lt); have c1 : w3.cell? ⟨w.heap.size, 5, none⟩ = some (.int .i64 h.num) := K3.out.cell rfl; clear hb)
  | (refine wpList_load_mid rfl 123 (.tmp 1) (by rfl) w.heap.size 0 (by rfl) (hdC h) _ rg Tryz.underlying123 rfl (hdC_info _) ?_; simp only [Act.put, yA, yB, yC])
  | (refine wpl_box rfl 123 (.tmp 0) rfl _ rfl ?_; intro w1 hk hg hz; have K := yH hk; have L := yH (bl_n (Below.refl _ _) hg); have rg : w1.rangeAt w.heap.size 0 (hdC h) := (by have := hk.range; rwa [List.toList_toArray] at this); clear hk hg hz))
 have I6 := yH (show HpI w h w3.heap.size 0 (.slice none 0 0) w6 from ⟨K6.out, F6.out, World.ownsRow_nil _ _ _ _, L6.out, Nat.lt_of_lt_of_le K3.out.lt (Nat.le_refl _)⟩)
 generalize w3.heap.size = f at *
 clear K6 F6 K5 F5 L5 F4 C4 K4 L4 L3 K3 K L
 go_loopg [14] 8 (fun gk iv W => HpL w h f gk iv W)
 case atStart => exact ⟨0, _, rfl, by omega, by omega, I6.out⟩
 case round =>
  obtain ⟨i, v, rfl, hi1, hi2, hI⟩ := hrel
  have I := yH hI
  have HI := yH (And.intro hi1 hi2)
  clear hI I6 hi1 hi2
  by_cases hlt : i < 8
  ·have ix := idx8 w.heap.size i hlt
   obtain ⟨hz1, hz2⟩ := HH.out.nb hlt
   have hltI : (i : Int) < 8 := by omega
   have HCz := yH hz1
   have CZ := yH (I.out.head.cell (i := nbO i) (by simpa using hz1))
   have HB := yH (hdB_succ h i)
   have HLt := yH hlt
   clear hz1 hlt
   generalize nbZ h i = z at *
   go_upto_region 7 with fail
   refine wp_region_qs (fun k w' => k ≤ 2 → w'.cell? ⟨f, 3, none⟩ = some v ∧ w'.cell? ⟨w.heap.size, nbO i, none⟩ = some (.int .i64 (z : Int))) [(0, some 2), (1, some 1), (2, some 2), (3, some 2), (4, some 2), (5, some 2), (6, some 1), (7, some 2), (8, some 2), (9, some 2), (10, some 2), (11, some 1), (12, some 2), (13, some 2), (14, some 2), (15, some 2), (16, some 1), (17, some 2), (18, some 2), (19, some 2), (20, some 1), (21, none), (22, none), (23, some 2), (24, none)] (by kernel_rfl) (by kernel_rfl) (by kernel_rfl) (by kernel_rfl) (by kernel_rfl) (fun _ _ _ _ _ h => h) (fun _ => ⟨I.out.frm.drew.cell rfl, CZ.out⟩) ?_
   simp only [yD, yE, yF, yG]
   (repeat (first | ((refine qs_mid (v := ?_) (by rfl) ?_ ?_; rotate_left 1; (· (intro j w' hj1 hj2 hS; have hS1 := (hS (by omega)).1; have hS2 := (hS (by omega)).2; clear hS; go_simp; (try (simp only [↓IntWalk.iteOmega]; go_simp)); (try simp (disch := omega) only [IntWalk.i64_in]); try with_reducible rfl))); simp only [Act.put, yA, yB, yC]) | (refine qs_now (v := ?_) (by rfl) ?_ ?_; rotate_left 1; (· (intro w' hS; go_simp; (try (simp only [↓IntWalk.iteOmega]; go_simp)); (try simp (disch := omega) only [IntWalk.i64_in]); try with_reducible rfl)); simp only [Act.put, yA, yB, yC]) | (refine qs_run (v := ?_) (by rfl) ?_ ?_; rotate_left 1; (· (intro j w' hS; go_simp; (try (simp only [↓IntWalk.iteOmega]; go_simp)); (try simp (disch := omega) only [IntWalk.i64_in]); try with_reducible rfl)); simp only [Act.put, yA, yB, yC]) | (refine qs_mid (v := ?_) (by rfl) ?_ ?_; rotate_left 1; (· (intro j w' hj1 hj2 hS; go_simp; (try (simp only [↓IntWalk.iteOmega]; go_simp)); (try simp (disch := omega) only [IntWalk.i64_in]); try with_reducible rfl)); simp only [Act.put, yA, yB, yC]) | (refine qs_skip (by rfl) ?_; simp only [Act.put, yA, yB, yC])))
   refine qs_act ?_
   go_wp2_with fail
   have I7 := yH (I.out.below ((Below.refl _ wr).alloc (Nat.le_refl _) (Obj.cells #[.int .u8 ((z : Int) / 16777216), .int .u8 ((z : Int) / 65536 % 256), .int .u8 ((z : Int) / 256 % 256), .int .u8 ((z : Int) % 256)] 5)).drew)
   refine ⟨fun _ => ⟨I7.out.frm.cell rfl, I7.out.head.cell (by have := HCz.out; simpa using this)⟩, ?_⟩
   refine qs_act ?_
   have AT := yH (own_atD I7.out.row)
   go_wp2_with (refine app_src rfl (.tmp 18) (.tmp 38) 25 (by rfl) (f + 1) 5 _ 1 1 Tryz.underlying25 infoByte rfl (by omega) v (4 * i) _ (by rfl) I7.out.row _ 4 _ (by rfl) (src_four (Blk.made _ _ _) 4) (by intro y hy; simp at hy; rcases hy with rfl | rfl | rfl | rfl <;> rfl) (by have := HLt.out; omega) (by have := HLt.out; omega) (by have := I7.out.frm.lt; exact this) ?_; intro v8 w8 ho hg _; have O8 := yH ho; have F8 := yH (I7.out.frm.grown hg (fun e => by have := AT.out f e.symm; omega)); have H8 := yH (I7.out.head.grown hg (fun e => by have := AT.out _ e.symm; have := I7.out.ge; omega)); have L8 := yH (show Below w.heap.size w w8 from I7.out.low.grown hg I7.out.low.size (fun k hk => by have := AT.out k hk; have := I7.out.ge; omega)); clear ho hg; simp only [Act.put, yA, yB, yC])
   refine ⟨fun _ => ⟨F8.out.cell rfl, H8.out.cell (by have := HCz.out; simpa using this)⟩, ?_⟩
   (repeat (first | (refine qs_now (v := ?_) (by rfl) ?_ ?_; rotate_left 1; (· (intro w' hS; go_simp; (try (simp only [↓IntWalk.iteOmega]; go_simp)); (try simp (disch := omega) only [IntWalk.i64_in]); try with_reducible rfl)); simp only [Act.put, yA, yB, yC]) | (refine qs_run (v := ?_) (by rfl) ?_ ?_; rotate_left 1; (· (intro j w' hS; go_simp; (try (simp only [↓IntWalk.iteOmega]; go_simp)); (try simp (disch := omega) only [IntWalk.i64_in]); try with_reducible rfl)); simp only [Act.put, yA, yB, yC]) | (refine qs_mid (v := ?_) (by rfl) ?_ ?_; rotate_left 1; (· (intro j w' hj1 hj2 hS; go_simp; (try (simp only [↓IntWalk.iteOmega]; go_simp)); (try simp (disch := omega) only [IntWalk.i64_in]); try with_reducible rfl)); simp only [Act.put, yA, yB, yC]) | (refine qs_skip (by rfl) ?_; simp only [Act.put, yA, yB, yC])))
   refine qs_act ?_
   obtain ⟨A8, p8, hv8, _⟩ := own_slice O8.out
   subst hv8
   have fr8 := F8.out.free 3
   have c8 : w8.cell? ⟨f, 3, none⟩ = some v := F8.out.cell rfl
   obtain ⟨w9, h9⟩ : ∃ W, W = w8.setCell ⟨f, 3, none⟩ (.slice A8 (4 * i + 4) p8) := ⟨_, rfl⟩
   have F9 := yH (show Blk w9 f 359 #[.int .i64 1, .int .i64 h.num, .int .i64 0, (.slice A8 (4 * i + 4) p8)] by rw [h9]; exact F8.out.put 3 (.slice A8 (4 * i + 4) p8))
   have T9 := yH (show Tch [f] w8 w9 by rw [h9]; exact tch_g (grown_put w8 _ _))
   have H9 := yH (H8.out.tch T9.out (by have := I.out.ge; simp; omega))
   have O9 := yH (own_tchP O8.out T9.out (fun b hb hm => by have := own_atD O8.out b hb; simp at hm; omega))
   have L9 := yH (L8.out.trans (T9.out.toBelow L8.out.size (fun k hk => by simp at hk; have := I.out.ge; omega)))
   go_wp2_with fail
   subst h9
   refine ⟨fun h3 => absurd h3 (by omega), ?_⟩
   refine qs_nil ?_
   go_wp2_with fail
   go_roundg (gk - 1)
   case measure => have := HI.out; have := HLt.out; omega
   case rel => exact ⟨i + 1, (.slice A8 (4 * i + 4) p8), by go_num, by have := HI.out; have := HLt.out; omega, by have := HI.out; have := HLt.out; omega, H9.out, F9.out, by rw [HB.out, bV_app, beL4, show (z : Int) / 16777216 % 256 = (z : Int) / 16777216 by omega]; exact O9.out, L9.out, I.out.ge⟩
  ·obtain rfl : i = 8 := by have := HI.out; omega
   have hnI : ¬ ((8 : Nat) : Int) < 8 := by omega
   obtain ⟨A, c, hv, hnc⟩ := own_slice I.out.row
   subst hv
   have RG := yH (show wr.rangeAt f 0 (fmC 1 h.num.toNat 0 A 32 c) by
    have := I.out.frm.range
    unfold fmC
    rw [show ((h.num.toNat : Nat) : Int) = h.num by omega]
    rwa [List.toList_toArray] at this)
   have SR := yH (Src.of_own I.out.row)
   go_wp2_with (first
    | (go_at_call 268; refine (fr_put 1 h.num.toNat 0 (by omega) (by omega) (by omega) SR.out (by omega) (hdB_bytes h 8)).mono ?_; rintro e w8 ⟨g, rfl, hb, hge, hl⟩; have B8 := yH hb; have L8 := yH (below_chain I.out.low hl); have G8 := yH (Nat.le_trans I.out.low.size hge); clear hb hl hge)
    | (refine wpList_load_mid rfl 359 (.tmp 4) (by rfl) f 0 (by rfl) (fmC 1 h.num.toNat 0 A 32 c) _ RG.out Tryz.underlying359 rfl (fmC_info _ _ _ _ _ _) ?_; simp only [Act.put, yA, yB, yC]))
   go_ret2
   exact ⟨g, rfl, B8.out, G8.out, L8.out⟩
end
end Go.Proofs.YtffalfacakdhkaaGreatDoor
namespace Go.Proofs.YtffalfacakdhkaaGreatDoor
open Go.RowKit Go.Maps
set_option linter.unusedVariables false
set_option linter.unusedSimpArgs false
def hdRow (h : Hd) : List Int := frL 1 h.num.toNat 0 (hdB h 8)
theorem hdRow_len (h : Hd) : (hdRow h).length = 512 := frL_len _ _ _ _ (by rw [hdB_len]; omega)
theorem hdRow_bytes (h : Hd) : ∀ z ∈ hdRow h, 0 ≤ z ∧ z < 256 := frL_bytes (by omega) (hdB_bytes h 8)
end Go.Proofs.YtffalfacakdhkaaGreatDoor
namespace Go.Proofs.YtffalfacakdhkaaGreatDoor
open Go.RowKit Go.Maps
set_option linter.unusedVariables false
set_option linter.unusedSimpArgs false
section
variable {P : Program} {w : World} {ops : Array Oper} {rest : List Oper} {o : Oper} {a : Act} {Q : Exit → Act → World → Prop}
theorem wpl_valP (hw : Region.wanted o (yielded ops a.tmps) = true) {v : Value} (hrun : (execOp a.eval o).run P w = .ok (.value v) w) (h : wpList P ops Q rest (a.put o.dst v) w) : wpList P ops Q (o :: rest) a w := by
 refine wpList_step fun K hK => ?_
 rw [if_pos hw]
 unfold Oper.wp
 rw [hrun]
 simp only [Oper.upon_value]
 exact hK _ _ h
end
section
theorem cmp_run {b : BinOp} {t : TypeId} {x y : Operand} {o : Oper} {t2 : TypeId} {a : Act} {w : World} {u v : Value} {r : Bool} (ho : o.op = .binOp b t x y t2) (hx : a.eval x = u) (hy : a.eval y = v) (hg : (eqGuard b t x y u v).run Tryz.prog w = .ok () w) (h : (binOp b t u v).run Tryz.prog w = .ok (.bool r) w) : (execOp a.eval o).run Tryz.prog w = .ok (.value (.bool r)) w := by
 unfold execOp
 simp only [ho, hx, hy, Sem.run_bind, hg, h, Result.andThen_ok]
 rfl
end
end Go.Proofs.YtffalfacakdhkaaGreatDoor
namespace Go.Proofs.YtffalfacakdhkaaGreatDoor
open Go.RowKit Go.Maps
set_option linter.unusedVariables false
set_option linter.unusedSimpArgs false
abbrev ndE : Array Value := #[.bool true, .slice none 0 0, .slice none 0 0, .slice none 0 0]
def ndZ : List Int := [1, 0] ++ List.replicate 1018 0
def ndRow : List Int := ndZ ++ beL (crcB ndZ).toNat 4
theorem ndZ_len : ndZ.length = 1020 := by unfold ndZ; rw [List.length_append, List.length_replicate]; rfl
theorem ndRow_len : ndRow.length = 1024 := by unfold ndRow; rw [List.length_append, ndZ_len, beL_len]
section
variable {P : Program} {w : World} {ops : Array Oper} {rest : List Oper} {o : Oper} {a : Act} {Q : Exit → Act → World → Prop}
theorem wpl_set (hgd : o.guard = none) (ty : TypeId) (x y : Operand) (ho : o.op = .store ty x y) (g off : Nat) (v : Value) (hx : a.eval x = .pointer (some ⟨g, off, none⟩)) (hy : a.eval y = v)
  (t : TypeId) (cs : Array Value) (hb : Blk w g t cs) (hi : (P.info? ty).map (·.size) = some 1) (hm : off < cs.size) (hc : v.cells = #[v]) (h1 : v.oneCell' = true)
  (h : ∀ w1, Blk w1 g t (cs.setIfInBounds off v) → w.grownBy w1 (some g) → w1.heap.size = w.heap.size → wpList P ops Q rest (a.put o.dst undef) w1) : wpList P ops Q (o :: rest) a w := by
 refine wpList_plain hgd fun K' hK' => ?_
 have hS : (storeVar ty ⟨g, off, none⟩ v).run P w = .ok () (w.setCells g off [v]) := by
  have := run_storeVar_mid (P := P) w g off ty #[v] (hb.isThere off 1 (by omega)) (by rw [hi]; rfl) (by simp [h1])
  rw [← this]
  unfold storeVar
  rw [hc]
  rfl
 unfold Oper.wp execOp
 simp only [ho, hx, hy, Instr.storeAt, Instr.sureAddr, Sem.run_bind, Sem.run_pure, Result.andThen_ok, hS]
 refine hK' _ _ (h _ ?_ (grown_setCells _ w off).1 (grown_setCells _ w off).2)
 have := Blk.puts [v] w cs off hb
 simpa [putAt] using this
end
theorem rises_nil (w : World) : Calls Tryz.prog 344 #[.slice none 0 0, .func (.func 345) #[] #[]] w fun e w' => e = .returned (.bool true) ∧ w' = w := by
 go_enter Tryz.func344, Tryz.ntmps344
 go_wp2_with fail
 go_loopg [5] 0 (fun (k : Nat) kv wk => kv = .int .i64 1 ∧ wk = w)
 ·exact ⟨rfl, rfl⟩
 ·obtain ⟨rfl, rfl⟩ := hrel
  go_wp2_with fail
  go_ret
  exact ⟨rfl, rfl⟩
theorem nd_right (w : World) : Calls Tryz.prog 289 #[.agg ndE] w fun e w' => e = .returned (.bool true) ∧ Below w.heap.size w w' := by
 go_enter Tryz.func289, Tryz.ntmps289
 go_wp2_with (refine wpl_box rfl 318 (.tmp 0) rfl _ rfl ?_; intro w1 hk hg hz; have K := yH hk; have G := yH hg; have c0 := (show Blk w1 _ _ ndE from hk).cell (i := 0) rfl; have c1 := (show Blk w1 _ _ ndE from hk).cell (i := 1) rfl; have c2 := (show Blk w1 _ _ ndE from hk).cell (i := 2) rfl; have c3 := (show Blk w1 _ _ ndE from hk).cell (i := 3) rfl; clear hk hg hz)
 refine (rises_nil w1).mono ?_
 rintro e w2 ⟨rfl, rfl⟩
 go_wp2_with fail
 go_ret
 exact ⟨rfl, bl_n (Below.refl _ _) G.out⟩
end Go.Proofs.YtffalfacakdhkaaGreatDoor
namespace Go.Proofs.YtffalfacakdhkaaGreatDoor
open Go.RowKit Go.Maps
set_option linter.unusedVariables false
set_option linter.unusedSimpArgs false
theorem info_nd : (Tryz.prog.info? 318).map (·.size) = some 4 := by kernel_rfl
theorem info_u8 : (Tryz.prog.info? 5).map (·.size) = some 1 := by kernel_rfl
theorem four_any {w : World} {g : Nat} {cs : Array Value} (hB : Blk w g 5 cs) (hs : cs.size = 1024) (n : Nat) (hn : n < 4294967296) :
  Calls Tryz.prog 343 #[.slice (some ⟨g, 1020, none⟩) 4 4, .int .u32 (n : Int)] w fun e w' => e = .returned (.tuple #[]) ∧ Blk w' g 5 (putAt cs 1020 (bV (beL n 4))) ∧ w.grownBy w' (some g) := by
 have B := yH hB
 have HS := yH hs
 clear hB hs
 go_enter Tryz.func343, Tryz.ntmps343
 go_wp2_with (first
  | (refine wpl_set rfl 5 (.tmp 22) (.tmp 18) (by rfl) g 1023 _ (by rfl) (by rfl) _ _ B3.out info_u8 (by simp [HS.out]) (by rfl) (by rfl) ?_; intro w4 hb hg hz; have B4 := yH hb; have G4 := yH (G3.out.trans hg); clear hb hg hz; simp only [Act.put, yA, yB, yC])
  | (refine wpl_set rfl 5 (.tmp 21) (.tmp 16) (by rfl) g 1022 _ (by rfl) (by rfl) _ _ B2.out info_u8 (by simp [HS.out]) (by rfl) (by rfl) ?_; intro w3 hb hg hz; have B3 := yH hb; have G3 := yH (G2.out.trans hg); clear hb hg hz; simp only [Act.put, yA, yB, yC])
  | (refine wpl_set rfl 5 (.tmp 20) (.tmp 13) (by rfl) g 1021 _ (by rfl) (by rfl) _ _ B1.out info_u8 (by simp [HS.out]) (by rfl) (by rfl) ?_; intro w2 hb hg hz; have B2 := yH hb; have G2 := yH (G1.out.trans hg); clear hb hg hz; simp only [Act.put, yA, yB, yC])
  | (refine wpl_set rfl 5 (.tmp 19) (.tmp 10) (by rfl) g 1020 _ (by rfl) (by rfl) _ _ B.out info_u8 (by simp [HS.out]) (by rfl) (by rfl) ?_; intro w1 hb hg hz; have B1 := yH hb; have G1 := yH hg; clear hb hg hz; simp only [Act.put, yA, yB, yC]))
 go_end0
 refine ⟨rfl, ?_, G4.out⟩
 have hb := B4.out
 rw [beL4]
 have e1 : (n : Int) / 16777216 % 256 = (n : Int) / 16777216 := by omega
 rw [e1]
 exact hb
def ndRaw : List Int := [1, 0] ++ List.replicate 1022 0
theorem ndZ_bytes : ∀ z ∈ ndZ, 0 ≤ z ∧ z < 256 := by
 unfold ndZ
 intro z hz
 rcases List.mem_append.1 hz with h | h
 ·simp at h; omega
 ·have := List.eq_of_mem_replicate h; omega
theorem nd_all : ndRaw = ndZ ++ List.replicate 4 (0 : Int) := by
 unfold ndZ ndRaw
 rw [List.append_assoc, List.replicate_append_replicate]
theorem nd_rd {w : World} {g : Nat} (h : Blk w g 5 (bV (ndRaw)).toArray) : RdI .u8 w (some ⟨g, 0, none⟩) 1020 ndZ := by
 have h1 := rd_sub (rd_full (n := 1024) h (by rw [nd_all, List.length_append, ndZ_len, List.length_replicate])) (p := 0) (q := 1020) (by omega)
 rw [nd_all, List.drop_zero, List.take_append_of_le_length (by rw [ndZ_len]; omega), List.take_of_length_le (by rw [ndZ_len]; omega)] at h1
 exact h1
theorem nd_end : putAt (bV (ndRaw)).toArray 1020 (bV (beL (crcB ndZ).toNat 4)) = (bV ndRow).toArray := by
 rw [nd_all]
 unfold ndRow
 rw [putAt_list _ _ _ (by rw [bV_len, beL_len, List.size_toArray, bV_len, List.length_append, ndZ_len, List.length_replicate]; exact Nat.le_refl _)]
 refine congrArg List.toArray ?_
 rw [bV_len, beL_len, List.toList_toArray]
 have e : (bV (ndZ ++ List.replicate 4 0)) = bV ndZ ++ bV (List.replicate 4 0) := by simp [bV]
 have e2 : (bV (ndZ ++ beL (crcB ndZ).toNat 4)) = bV ndZ ++ bV (beL (crcB ndZ).toNat 4) := by simp [bV]
 have hl : (bV ndZ).length = 1020 := by rw [bV_len, ndZ_len]
 rw [e, e2, List.take_append_of_le_length (by omega), List.take_of_length_le (by omega), List.drop_eq_nil_of_le (by rw [List.length_append, hl, bV_len, List.length_replicate]; exact Nat.le_refl _), List.append_nil]
theorem crc_nd {w : World} {g z : Nat} (hz : z = (crcB ndZ).toNat) (h : Blk w g 5 (bV ndRaw).toArray) : Calls Tryz.prog 334 #[.slice (some ⟨g, 0, none⟩) 1020 1024] w fun e w' => e = .returned (.int .u32 (z : Int)) ∧ Below w.heap.size w w' := by
 have h := crcsum_any ndZ (some ⟨g, 0, none⟩) 1020 1024 _ (nd_rd h) ndZ_bytes (by omega)
 rw [show wv (crcB ndZ) = (z : Int) by rw [hz]; rfl] at h
 exact h
theorem nd_size : (bV ndRaw).toArray.size = 1024 := by rw [List.size_toArray, bV_len, nd_all, List.length_append, ndZ_len, List.length_replicate]
set_option maxRecDepth 100000 in
/-- The empty leaf's bytes. -/
theorem nd_put (w : World) : Calls Tryz.prog 287 #[.agg ndE] w fun e w' => ∃ g, e = .returned (.tuple #[.slice (some ⟨g, 0, none⟩) 1024 1024, .int .i64 0]) ∧ Blk w' g 5 (bV ndRow).toArray ∧ w.heap.size ≤ g ∧ Below w.heap.size w w' := by
 go_enter Tryz.func287, Tryz.ntmps287
 go_upto_region 4 with (first
  | (go_at_call 289; refine (nd_right _).mono ?_; rintro e w2 ⟨rfl, hb⟩; have L2 := yH (below_chain L1.out hb); have K2 := yH (K1.out.below hb K1.out.lt); have c0 := (show Blk w2 _ _ ndE from K2.out).cell (i := 0) rfl; have c1 := (show Blk w2 _ _ ndE from K2.out).cell (i := 1) rfl; have c2 := (show Blk w2 _ _ ndE from K2.out).cell (i := 2) rfl; have c3 := (show Blk w2 _ _ ndE from K2.out).cell (i := 3) rfl; clear hb)
  | (refine wpl_box rfl 318 (.tmp 0) rfl _ rfl ?_; intro w1 hk hg hz; have K1 := yH hk; have L1 := yH (bl_n (Below.refl _ _) hg); clear hk hg hz)
  | (refine wpl_load_blk rfl 318 (.tmp 1) (by rfl) w.heap.size (by rfl) 318 _ (show Blk w1 _ _ ndE from K1.out) _ Tryz.underlying318 rfl 4 info_nd rfl ?_; simp only [Act.put, yA, yB, yC])
  | (refine mk_bytes rfl (.const (.int .i64 1024)) (.const (.int .i64 1024)) (by rfl) w2.heap.size 1024 1024 1024 (by rfl) (by rfl) (by rfl) (by rfl) (by omega) (Nat.le_refl _) ?_; intro w3 ho hg; have hB := own_full ho; obtain ⟨c3, hc3⟩ : ∃ c : Array Value, c = (List.replicate 1024 (Value.int .u8 0)).toArray := ⟨_, rfl⟩; rw [← hc3] at hB; have B3 := yH hB; have C3 := yH hc3; clear hB hc3; have L3 := yH (bl_n L2.out hg); have L3k := yH (bl_n (Below.refl _ w2) hg); clear ho hg))
 have NG := yH (show w.heap.size < w2.heap.size by have := K2.out.lt; omega)
 have GL := yH (show w2.heap.size < w3.heap.size from B3.out.lt)
 have K3 := yH (show Blk w3 w.heap.size 318 ndE from by have h1 := K2.out; exact (L3k.out.block _ h1.lt).trans h1)
 clear c0 c1 c2 K1 K2 L1 L2
 generalize w2.heap.size = g at *
 refine wp_region_qs (fun _ w' => w'.cell? ⟨w.heap.size, 3, none⟩ = some (.slice none 0 0)) [(0, some 0), (1, some 1), (2, some 1), (3, some 1), (4, some 1), (5, some 1), (6, some 0), (7, none), (8, some 1), (9, none)] (by kernel_rfl) (by kernel_rfl) (by kernel_rfl) (by kernel_rfl) (by kernel_rfl) (fun _ _ _ _ _ h => h) (K3.out.cell rfl) ?_
 simp only [yD, yE, yF, yG]
 (repeat (first | (refine qs_mid (v := ?_) (by rfl) ?_ ?_; rotate_left 1; (· (intro j w' hj1 hj2 hS; go_simp; (try (simp only [↓IntWalk.iteOmega]; go_simp)); (try simp (disch := omega) only [IntWalk.i64_in]); try with_reducible rfl)); simp only [Act.put, yA, yB, yC]) | (refine qs_skip (by rfl) ?_; simp only [Act.put, yA, yB, yC])))
 refine qs_act ?_
 go_wp2_with (refine wpl_set rfl 5 (.tmp 22) (.const (.int .u8 2)) (by rfl) g 0 _ (by rfl) (by rfl) _ _ (show Blk _ g _ c3 from B3.out) info_u8 (by rw [C3.out]; simp) (by rfl) (by rfl) ?_; intro w4 hb hg hz; have B4 := yH hb; have G4 := yH hg; clear hb hg hz; simp only [Act.put, yA, yB, yC])
 have K4 := yH (show Blk w4 w.heap.size 318 ndE from K3.out.drew.grown G4.out (by have := NG.out; simp; omega))
 refine ⟨K4.out.cell rfl, ?_⟩
 (repeat (first | (refine qs_mid (v := ?_) (by rfl) ?_ ?_; rotate_left 1; (· (intro j w' hj1 hj2 hS; go_simp; (try (simp only [↓IntWalk.iteOmega]; go_simp)); (try simp (disch := omega) only [IntWalk.i64_in]); try with_reducible rfl)); simp only [Act.put, yA, yB, yC]) | (refine qs_skip (by rfl) ?_; simp only [Act.put, yA, yB, yC])))
 refine qs_act ?_
 go_wp2_with (refine wpl_set rfl 5 (.tmp 23) (.tmp 21) (by rfl) g 1 (.int .u8 0) (by rfl) (by rfl) _ _ B4.out info_u8 (by rw [C3.out]; simp) (by rfl) (by rfl) ?_; intro w5 hb hg hz; have B5 := yH hb; have G5 := yH hg; clear hb hg hz; simp only [Act.put, yA, yB, yC])
 have K5 := yH (show Blk w5 w.heap.size 318 ndE from K4.out.grown G5.out (by have := NG.out; simp; omega))
 refine ⟨K5.out.cell rfl, ?_⟩
 (repeat (first | (refine qs_mid (v := ?_) (by rfl) ?_ ?_; rotate_left 1; (· (intro j w' hj1 hj2 hS; go_simp; (try (simp only [↓IntWalk.iteOmega]; go_simp)); (try simp (disch := omega) only [IntWalk.i64_in]); try with_reducible rfl)); simp only [Act.put, yA, yB, yC]) | (refine qs_skip (by rfl) ?_; simp only [Act.put, yA, yB, yC])))
 refine qs_nil ?_
 have d0 := K5.out.cell (i := 0) rfl
 go_upto_region 6 with fail
 refine wp_region_qs (fun _ w' => w'.cell? ⟨w.heap.size, 1, none⟩ = some (.slice none 0 0)) [(0, some 0), (1, some 1), (2, some 1), (3, some 1), (4, some 1), (5, some 1), (6, some 0), (7, none), (8, some 1), (9, none)] (by kernel_rfl) (by kernel_rfl) (by kernel_rfl) (by kernel_rfl) (by kernel_rfl) (fun _ _ _ _ _ h => h) (K5.out.cell rfl) ?_
 simp only [yD, yE, yF, yG]
 (repeat (first | (refine qs_mid (v := ?_) (by rfl) ?_ ?_; rotate_left 1; (· (intro j w' hj1 hj2 hS; go_simp; (try (simp only [↓IntWalk.iteOmega]; go_simp)); (try simp (disch := omega) only [IntWalk.i64_in]); try with_reducible rfl)); simp only [Act.put, yA, yB, yC]) | (refine qs_skip (by rfl) ?_; simp only [Act.put, yA, yB, yC])))
 refine qs_act ?_
 go_wp2_with (refine wpl_set rfl 5 (.tmp 32) (.const (.int .u8 1)) (by rfl) g 0 _ (by rfl) (by rfl) _ _ B5.out.drew info_u8 (by rw [C3.out]; simp) (by rfl) (by rfl) ?_; intro w6 hb hg hz; have B6 := yH hb; have G6 := yH hg; clear hb hg hz; simp only [Act.put, yA, yB, yC])
 have K6 := yH (show Blk w6 w.heap.size 318 ndE from K5.out.drew.grown G6.out (by have := NG.out; simp; omega))
 refine ⟨K6.out.cell rfl, ?_⟩
 (repeat (first | (refine qs_mid (v := ?_) (by rfl) ?_ ?_; rotate_left 1; (· (intro j w' hj1 hj2 hS; go_simp; (try (simp only [↓IntWalk.iteOmega]; go_simp)); (try simp (disch := omega) only [IntWalk.i64_in]); try with_reducible rfl)); simp only [Act.put, yA, yB, yC]) | (refine qs_skip (by rfl) ?_; simp only [Act.put, yA, yB, yC])))
 refine qs_act ?_
 go_wp2_with (refine wpl_set rfl 5 (.tmp 33) (.tmp 31) (by rfl) g 1 (.int .u8 0) (by rfl) (by rfl) _ _ B6.out info_u8 (by rw [C3.out]; simp) (by rfl) (by rfl) ?_; intro w7 hb hg hz; have B7 := yH hb; have G7 := yH hg; clear hb hg hz; simp only [Act.put, yA, yB, yC])
 have K7 := yH (show Blk w7 w.heap.size 318 ndE from K6.out.grown G7.out (by have := NG.out; simp; omega))
 refine ⟨K7.out.cell rfl, ?_⟩
 (repeat (first | (refine qs_mid (v := ?_) (by rfl) ?_ ?_; rotate_left 1; (· (intro j w' hj1 hj2 hS; go_simp; (try (simp only [↓IntWalk.iteOmega]; go_simp)); (try simp (disch := omega) only [IntWalk.i64_in]); try with_reducible rfl)); simp only [Act.put, yA, yB, yC]) | (refine qs_skip (by rfl) ?_; simp only [Act.put, yA, yB, yC])))
 refine qs_nil ?_
 have L7 := yH (show Below w.heap.size w w7 from by
  have n := NG.out
  exact bl_g (bl_g (bl_g (bl_g L3.out.drew G4.out (by omega)) G5.out (by omega)).drew G6.out (by omega)) G7.out (by omega))
 have d0 := K7.out.cell (i := 0) rfl
 have d1 := K7.out.cell (i := 1) rfl
 have d2 := K7.out.cell (i := 2) rfl
 have d3 := K7.out.cell (i := 3) rfl
 have B := yH (show Blk w7 g 5 (bV (ndRaw)).toArray from by
  have h := B7.out
  rw [C3.out] at h
  unfold ndRaw
  have e : (((((List.replicate 1024 (Value.int .u8 0)).toArray.setIfInBounds 0 (.int .u8 2)).setIfInBounds 1 (.int .u8 0)).setIfInBounds 0 (.int .u8 1)).setIfInBounds 1 (.int .u8 0)) = (bV ([1, 0] ++ List.replicate 1022 0)).toArray := by
   rw [List.replicate_succ, List.replicate_succ]
   simp only [List.setIfInBounds_toArray, List.set_cons_zero, List.set_cons_succ, bV, List.map_append, List.map_replicate, List.map_cons, List.map_nil, List.cons_append, List.nil_append]
  exact (congrArg (Blk w7 g _) e).mp h)
 clear B3 B5 B6 B7 C3 G4 G5 G6 G7 K3 K4 K5 K6
 go_wp2_with fail
 go_loopg [39] 0 (fun (k : Nat) kv wk => kv = .int .i64 0 ∧ wk = w7)
 ·exact ⟨rfl, rfl⟩
 ·obtain ⟨rfl, rfl⟩ := hrel
  go_wp2_with fail
  go_loopg [58] 0 (fun (k : Nat) kv wk => kv = .int .i64 0 ∧ wk = wr)
  ·exact ⟨rfl, rfl⟩
  ·obtain ⟨rfl, rfl⟩ := hrel
   go_wp2_with fail
   go_loopg [72] 0 (fun (k : Nat) kv wk => kv = .int .i64 0 ∧ wk = wr)
   ·exact ⟨rfl, rfl⟩
   ·obtain ⟨rfl, rfl⟩ := hrel
    go_upto_region 26 with fail
    obtain ⟨z, hz⟩ : ∃ z : Nat, z = (crcB ndZ).toNat := ⟨_, rfl⟩
    have HZ := yH hz
    clear hz
    refine wp_region_qs (fun _ w' => True) [(0, some 2), (1, some 1), (2, some 2), (3, some 1), (4, none), (5, none)] (by kernel_rfl) (by kernel_rfl) (by kernel_rfl) (by kernel_rfl) (by kernel_rfl) (fun _ _ _ _ _ h => h) trivial ?_
    simp only [yD, yE, yF, yG]
    (repeat (first | (refine qs_mid (v := ?_) (by rfl) ?_ ?_; rotate_left 1; (· (intro j w' hj1 hj2 hS; go_simp; (try (simp only [↓IntWalk.iteOmega]; go_simp)); (try simp (disch := omega) only [IntWalk.i64_in]); try with_reducible rfl)); simp only [Act.put, yA, yB, yC]) | (refine qs_skip (by rfl) ?_; simp only [Act.put, yA, yB, yC])))
    refine qs_act ?_
    go_wp2_with (go_at_call 334; refine (crc_nd HZ.out B.out.drew).mono ?_; rintro e w8 ⟨rfl, hb⟩; have L8 := yH (below_chain L7.out.drew hb); have B8 := yH (B.out.drew.below hb (by have := B.out.lt; simpa using this)); clear hb)
    refine ⟨trivial, ?_⟩
    (repeat (first | (refine qs_mid (v := ?_) (by rfl) ?_ ?_; rotate_left 1; (· (intro j w' hj1 hj2 hS; go_simp; (try (simp only [↓IntWalk.iteOmega]; go_simp)); (try simp (disch := omega) only [IntWalk.i64_in]); try with_reducible rfl)); simp only [Act.put, yA, yB, yC]) | (refine qs_skip (by rfl) ?_; simp only [Act.put, yA, yB, yC])))
    have F := yH (four_any B8.out nd_size z (by rw [HZ.out]; exact (crcB ndZ).isLt))
    refine qs_act ?_
    go_wp2_with (go_at_call 343; refine (F.out).mono ?_; rintro e w9 ⟨rfl, hb, hg⟩; have B9 := yH hb; have L9 := yH (bl_g L8.out hg (by have := NG.out; omega)); clear hb hg)
    refine ⟨trivial, ?_⟩
    (repeat (first | (refine qs_mid (v := ?_) (by rfl) ?_ ?_; rotate_left 1; (· (intro j w' hj1 hj2 hS; go_simp; (try (simp only [↓IntWalk.iteOmega]; go_simp)); (try simp (disch := omega) only [IntWalk.i64_in]); try with_reducible rfl)); simp only [Act.put, yA, yB, yC]) | (refine qs_skip (by rfl) ?_; simp only [Act.put, yA, yB, yC])))
    refine qs_nil ?_
    go_wp2_with fail
    go_ret2
    refine ⟨g, rfl, ?_, by have := NG.out; omega, L9.out⟩
    have h := B9.out
    rw [HZ.out, nd_end] at h
    exact h
end Go.Proofs.YtffalfacakdhkaaGreatDoor
namespace Go.Proofs.YtffalfacakdhkaaGreatDoor
open Go.RowKit Go.Maps
set_option linter.unusedVariables false
set_option linter.unusedSimpArgs false
theorem qs_mk {P : Program} {l : List Oper} {Q : Exit → Act → World → Prop} {S : Nat → World → Prop} {o : Oper} {r : List (Oper × Option Nat)} {k m : Nat} {a : Act} {w : World} (hw : Region.wanted o (yielded l.toArray a.tmps) = true) (t : TypeId) (parts : Array (Nat × Operand)) (ho : o.op = .build t parts) (vals : List (Nat × Value)) (hl : parts.toList.map (fun x => (x.1, a.eval x.2)) = vals) (cs : Array Value) (hf : P.built t vals = some cs)
  (h : wpQs P l Q S r k (a.put o.dst (.agg cs)) w) : wpQs P l Q S ((o, some m) :: r) k a w := by
 refine qs_run hw (fun j w' _ => ?_) h
 have hf' : P.built t (parts.map fun (i, x) => (i, a.eval x)).toList = some cs := by
  rw [Array.toList_map]
  rw [← hl] at hf
  exact hf
 have hr := run_build w' t (parts.map fun (i, x) => (i, a.eval x)) cs hf'
 unfold execOp
 simp only [ho, Sem.run_bind, hr, Sem.run_pure, Result.andThen_ok]
theorem nd_info : (Tryz.prog.info? 318).map (·.size) = some ndE.toList.length := by show _ = some 4; kernel_rfl
theorem nd_one : ∀ v ∈ ndE.toList, v.oneCell' = true := by intro v hv; simp [ndE] at hv; rcases hv with rfl | rfl <;> rfl
theorem ndRow_bytes : ∀ z ∈ ndRow, 0 ≤ z ∧ z < 256 := by
 intro z hz
 unfold ndRow at hz
 rcases List.mem_append.1 hz with h | h
 ·exact ndZ_bytes z h
 ·exact beL_bytes _ _ z h
end Go.Proofs.YtffalfacakdhkaaGreatDoor
