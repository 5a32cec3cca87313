/-
  what this claim needs of: DkO4, DkC2, DkL1, DkA2 (written by cut.py).
-/
import Derived.Test.YtffalfacakdhkaaGreatDoorDDkT
import Derived.Test.YtffalfacakdhkaaGreatDoorDDkLaid
import Derived.Test.YtffalfacakdhkaaGreatDoorDQnD
import Derived.Test.YtffalfacakdhkaaGreatDoorDDlStep
import Derived.Test.YtffalfacakdhkaaGreatDoorDStB
import Derived.StringKeys
import Derived.Test.YtffalfacakdhkaaGreatDoorDDkE
namespace Go.Proofs.YtffalfacakdhkaaGreatDoor
open Go.RowKit Go.Maps
set_option linter.unusedVariables false
set_option linter.unusedSimpArgs false
theorem wpl_int1 {w : World} {ops : Array Oper} {rest : List Oper} {o : Oper} {a : Act} {Q : Exit → Act → World → Prop} (hg : o.guard = none) (x : Operand) (hop : o.op = .buildSlice 55 1 #[(0, x)]) (v : Int) (hx : a.eval x = .int .i64 v)
  (hK : ∀ w1, Blk w1 w.heap.size 3 #[.int .i64 v] → w.grownBy w1 none → w1.heap.size = w.heap.size + 1 → wpList Tryz.prog ops Q rest (a.put o.dst (.slice (some ⟨w.heap.size, 0, none⟩) 1 1)) w1) : wpList Tryz.prog ops Q (o :: rest) a w := by
 obtain ⟨i0, hi, hz0, hz1, hz2⟩ := info_parts info_int
 refine wpList_buildSlice hg 55 3 1 #[(0, x)] hop #[.int .i64 v] i0 (.int .i64 0) Tryz.underlying55 hi hz0 (by rw [hz1]; omega) (by rw [hz1]; omega) ?_ (hK _ (Blk.made _ _ _) (World.grownBy_alloc w _ none) (by simp))
 rw [Array.toList_map]
 simp only [List.map_cons, List.map_nil]
 rw [hx, hz1, fill_cons 0 [.int .i64 v] (by simp [Value.cells]) (by simp) (by simp)]
 unfold Instr.fill
 rw [putAt_all _ _ (by simp)]
theorem opr_any (k s : Nat) (hk : k = 3 ∨ k = 4) (hs : 1 ≤ s ∧ s ≤ 1073741824) (w : World) : Calls Tryz.prog 173 #[.agg (opSC (k : Int) (s : Int))] w fun e w' => e = .returned (.bool true) ∧ Below w.heap.size w w' := by
 have h := opRight_any (opS_at w (k : Int) (s : Int)) (by simp [opS]) (by simp [opS])
 refine h.mono ?_
 rintro e w' ⟨rfl, hb⟩
 rw [opS_right (k : Int) (s : Int) (by omega) (by omega)]
 exact ⟨rfl, hb⟩
theorem opS_info (k s : Int) : (Tryz.prog.info? 138).map (·.size) = some (opSC k s).size := by kernel_rfl
theorem src_bZ {W : World} {g n : Nat} {l : List Int} (h : Blk W g 5 (bZ l).toArray) (hl : l.length = n) : Src W 1 (.slice (some ⟨g, 0, none⟩) n 64) n (bV l) := by
 refine ⟨_, 64, rfl, by rw [bV_len, hl, Nat.mul_one], fun _ => ⟨g, 0, rfl, h.lt, fun j y hy => ?_⟩⟩
 rw [Nat.zero_add]
 refine h.cell ?_
 rw [List.getElem?_toArray]
 unfold bZ
 have hj : j < (l.map (Value.int .u8)).length := by
  have := (List.getElem?_eq_some_iff.1 hy).1
  unfold bV at this
  exact this
 rw [List.getElem?_append_left hj]
 exact hy
def opB (k s : Nat) : List Int := beL k 1 ++ beL s 4
set_option maxRecDepth 100000 in
set_option maxHeartbeats 1000000 in
theorem op_put (k s : Nat) (hk : k = 3 ∨ k = 4) (hs : 1 ≤ s ∧ s ≤ 1073741824) (w : World) : Calls Tryz.prog 184 #[.agg (opSC (k : Int) (s : Int))] w fun e w' => ∃ A c, e = .returned (.tuple #[.slice A 5 c, .int .i64 0]) ∧ Src w' 1 (.slice A 5 c) 5 (bV (opB k s)) ∧ Below w.heap.size w w' := by
 have HS := yH hs
 have HR := yH (fun W => opr_any k s hk hs W)
 have hk2 : (k : Int) ≠ 1 ∧ (k : Int) ≠ 2 ∧ 0 ≤ (k : Int) ∧ (k : Int) < 256 := by omega
 obtain ⟨k1, k2, k3, k4⟩ := hk2
 have e1 : ((k : Int) == 1) = false := beq_eq_false_iff_ne.2 k1
 have e2 : ((k : Int) == 2) = false := beq_eq_false_iff_ne.2 k2
 clear hs hk
 go_enter Tryz.func184, Tryz.ntmps184
 go_upto_region 4 with (first
  | (refine wpl_box rfl 138 (.tmp 0) rfl _ rfl ?_; intro w1 hk hg hz; have K1 := yH (show Blk w1 w.heap.size 138 (opSC (k : Int) (s : Int)) from hk); have L1 := yH (bl_n (Below.refl _ w) hg); clear hk hg hz; simp only [Act.put, yA, yB, yC])
  | (refine wpl_load_blk rfl 138 (.tmp 1) (by rfl) w.heap.size (by rfl) 138 _ K1.out _ Tryz.underlying138 rfl _ (opS_info _ _) rfl ?_; simp only [Act.put, yA, yB, yC])
  | (go_at_call 173; refine (HR.out _).mono ?_; rintro e w2 ⟨rfl, hl⟩; have L2 := yH (below_chain L1.out hl); have K2 := yH (K1.out.below hl K1.out.lt); clear hl)
  | (refine wpl_alloc_zero rfl 389 (by rfl) Tryz.zeroValue389 ?_; intro w3 hk hg hz; have B3 := yH (show Blk w3 w2.heap.size 389 (bufC (.slice none 0 0)) from hk); have L3 := yH (bl_n L2.out hg); have K3 := yH (K2.out.below (bl_n (Below.refl w2.heap.size w2) hg) K2.out.lt); clear hk hg hz))
 have W3 := yH (show WbI w2.heap.size w3 w2.heap.size [] from ⟨Nat.le_refl _, by have := B3.out.lt; omega, .inl ⟨rfl, B3.out⟩⟩)
 have a0 : w3.cell? ⟨w.heap.size, 0, none⟩ = some (.int .u8 (k : Int)) := K3.out.cell rfl
 have LB := yH L2.out.size
 have KL := yH K2.out.lt
 have K3' := yH K3.out
 clear B3 L1 K1 K3
 obtain ⟨wb, hwb⟩ : ∃ wb, wb = w2.heap.size := ⟨_, rfl⟩
 rw [← hwb] at W3 KL LB ⊢
 have HWB := yH hwb
 clear hwb
 go_upto_region 27 with (first
  | (refine wpl_int1 rfl (.tmp 14) (by rfl) (k : Int) (by rfl) ?_; intro w4 hb hg hz; have B4 := yH (show Blk w4 w3.heap.size 3 #[.int .i64 ((k : Nat) : Int)] from hb); have L4 := yH (show Below w3.heap.size w3 w4 from bl_n (Below.refl _ _) hg); have W4 := yH (W3.out.below L4.out); have K4 := yH (K3'.out.below L4.out K3'.out.lt); clear hb hg hz; simp only [Act.put, yA, yB, yC])
  | (go_at_call 265; refine (wb_number wb _ W6.out w5.heap.size 1 s 4 (B6.out.cell rfl) (by omega) (by have := HS.out; omega) (by simp [beL_len])).mono ?_; rintro e w7 ⟨rfl, hW, hl⟩; have W7 := yH hW; have L7 := yH hl; clear hW hl)
  | (refine wpl_int1 rfl (.tmp 20) (by rfl) (s : Int) (by rfl) ?_; intro w6 hb hg hz; have B6 := yH (show Blk w6 w5.heap.size 3 #[.int .i64 ((s : Nat) : Int)] from hb); have L6 := yH (show Below w5.heap.size w5 w6 from bl_n (Below.refl _ _) hg); have W6 := yH (W5.out.below L6.out); clear hb hg hz; simp only [Act.put, yA, yB, yC])
  | (go_at_call 265; refine (wb_number wb [] W4.out w3.heap.size 1 k 1 (B4.out.cell rfl) (by omega) (by omega) (by simp)).mono ?_; rintro e w5 ⟨rfl, hW, hl⟩; have W5 := yH hW; have L5 := yH hl; have K5 := yH (show Blk w5 w.heap.size 138 (opSC (k : Int) (s : Int)) from (hl.block _ KL.out).trans K4.out); have a5 : w5.cell? ⟨w.heap.size, 0, none⟩ = some (.int .u8 (k : Int)) := K5.out.cell rfl; have b5 : w5.cell? ⟨w.heap.size, 3, none⟩ = some (.int .i64 (s : Int)) := K5.out.cell rfl; clear hW hl))
 have HL := yH (show ([] ++ beL k 1 ++ beL s 4).length = 5 by simp [beL_len])
 obtain ⟨hB1, hB2, hW⟩ := W7.out
 rcases hW with ⟨h0, _⟩ | ⟨g, hg, _, _, h1, h2⟩
 ·have := HL.out
  rw [h0] at this
  cases this
 rw [HL.out] at h1
 have BW := yH h1
 have BG := yH (src_bZ h2 HL.out)
 have L37 := yH (show Below wb w3 w7 from ((L4.out.mono W3.out.2.1).trans L5.out).trans ((L6.out.mono W5.out.2.1).trans L7.out))
 clear h1 h2 hg
 go_wp2_with (first
  | (go_at_call 102; refine (bclone_any ⟨g, 0, none⟩ 5 64 (BG.out.below (Below.refl _ w7).drew) (bV_one _) (by omega)).mono ?_; rintro e w9 ⟨v, rfl, ho, hl⟩; have O9 := yH ho; have L9 := yH hl; clear ho hl)
  | (go_at_call 267; refine (bf_bytes 5 g 64 BW.out (by omega) (by omega) (by omega)).mono ?_; rintro e w8 ⟨rfl, rfl⟩))
 obtain ⟨A9, c9, rfl, _⟩ := own_slice O9.out
 go_ret2
 have L7 := yH (show Below w.heap.size w w7 from L3.out.trans (L37.out.mono LB.out))
 exact ⟨A9, c9, rfl, Src.of_own O9.out, L7.out.trans (((Below.refl _ w7).drew.trans (L9.out.mono (by simp))).mono L7.out.size)⟩
end Go.Proofs.YtffalfacakdhkaaGreatDoor
namespace Go.Proofs.YtffalfacakdhkaaGreatDoor
open Go.RowKit Go.Maps Go.Shelf
set_option linter.unusedVariables false
set_option linter.unusedSimpArgs false
theorem numsL_app : ∀ (a : List (List UInt8)) (b : List UInt8) (zs : List Int) (y : StepV), numsL a = some zs → stepL (cleanW ++ b) = some y → numsL (a ++ [b]) = some (zs ++ [y.n])
 | [], b, zs, y, h, hy => by
  simp only [numsL, Option.some.injEq] at h
  subst h
  simp [numsL, hy]
 | w :: r, b, zs, y, h, hy => by
  simp only [numsL, List.cons_append] at h ⊢
  cases hw : stepL (cleanW ++ w) with
  | none => rw [hw] at h; cases h
  | some x =>
   rw [hw] at h
   simp only at h ⊢
   cases hr : numsL r with
   | none => rw [hr] at h; cases h
   | some zr =>
    rw [hr] at h
    simp only [Option.map_some, Option.some.injEq] at h
    rw [numsL_app r b zr y hr hy, ← h]
    simp
theorem numsL_bad : ∀ (a : List (List UInt8)) (b : List UInt8) (r : List (List UInt8)), stepL (cleanW ++ b) = none → numsL (a ++ b :: r) = none
 | [], b, r, hy => by simp [numsL, hy]
 | w :: a, b, r, hy => by
  simp only [numsL, List.cons_append]
  cases hw : stepL (cleanW ++ w) with
  | none => rfl
  | some x =>
   simp only [numsL_bad a b r hy]
   rfl
def NmPost (ws : List ByteArray) (W : World) (e : Ending) (w' : World) : Prop := Below W.heap.size W w' ∧ match numsL (lists ws) with
 | some zs => ∃ A c, e = .returned (.tuple #[.slice A zs.length c, .bool true]) ∧ w'.ownsRow W.heap.size 3 1 (.slice A zs.length c) zs.length (zs.map (Value.int .i64))
 | none => e = .returned (.tuple #[.slice none 0 0, .bool false])
def NmI (W : World) (ws : List ByteArray) (m : Nat) (v iv : Value) (wr : World) : Prop := ∃ (j : Nat) (zs : List Int), iv = .int .i64 (j : Int) ∧ j ≤ ws.length ∧ j + m ≤ ws.length ∧ ws.length ≤ j + m ∧ numsL (lists (ws.take j)) = some zs ∧ zs.length = j ∧ wr.ownsRow W.heap.size 3 1 v zs.length (zs.map (Value.int .i64)) ∧ Below W.heap.size W wr
theorem lists_take {ws : List ByteArray} {j : Nat} (hj : j < ws.length) : lists (ws.take (j + 1)) = lists (ws.take j) ++ [ws[j].data.toList] := by
 unfold lists
 rw [List.take_succ_eq_append_getElem hj, List.map_append]
 rfl
theorem lists_cut {ws : List ByteArray} {j : Nat} (hj : j < ws.length) : lists ws = lists (ws.take j) ++ ws[j].data.toList :: lists (ws.drop (j + 1)) := by
 unfold lists
 rw [← List.map_cons (f := fun x : ByteArray => x.data.toList), ← List.map_append]
 congr 1
 rw [← List.drop_eq_getElem_cons hj, List.take_append_drop]
theorem clean_data (x : ByteArray) : (⟨cleanW.toArray⟩ ++ x : ByteArray).data.toList = cleanW ++ x.data.toList := by
 rw [ByteArray.data_append, Array.toList_append]
set_option maxRecDepth 100000 in
set_option maxHeartbeats 1000000 in
theorem dsk_numbers {W : World} (ht : LnT W) (A : Option Addr) (b off c : Nat) (ws : List ByteArray) (hA : ws ≠ [] → A = some ⟨b, off, none⟩) (hw : WdAt W b off ws) (hl : ws.length ≤ 100) (hs : ∀ x ∈ ws, x.size ≤ 1000) (hc : ws.length ≤ c) :
  Calls Tryz.prog 24 #[.slice A ws.length c] W (NmPost ws W) := by
 have HT := yH ht
 have HW := yH hw
 have HS := yH hs
 have HA := yH hA
 clear ht hw hs hA
 go_enter Tryz.func24, Tryz.ntmps24
 go_wp2
 go_loopg [4, 11] ws.length (fun m v iv wr => NmI W ws m v iv wr)
 case atStart => exact ⟨0, [], rfl, by omega, by omega, by omega, rfl, rfl, World.ownsRow_nil _ _ _ _, Below.refl _ _⟩
 case round =>
  obtain ⟨j, zs, rfl, h1, h2, h3, h4, h5, h6, h7⟩ := hrel
  have O := yH h6
  have L := yH h7
  have HN := yH h4
  have HZ := yH h5
  clear h4 h5 h6 h7
  by_cases hj : j < ws.length
  ·have hJ : (j : Int) < (ws.length : Int) := by omega
   have hA := HA.out (by intro h; rw [h] at hj; simp at hj)
   subst hA
   obtain ⟨x, hx⟩ : ∃ x, x = ws[j] := ⟨_, rfl⟩
   have hcell : wr.cell? ⟨b, off + j, none⟩ = some (.string x) := by rw [hx]; exact (HW.out.below L.out) j hj
   have hxs : x.size ≤ 1000 := by rw [hx]; exact HS.out _ (List.getElem_mem hj)
   have HX := yH hx
   have HSt := yH (step_any (⟨cleanW.toArray⟩ ++ x) wr (HT.out.below L.out) (by rw [ByteArray.size_append]; show 6 + x.size ≤ _; omega))
   rw [clean_data] at HSt
   have hs1 : ¬ 9223372036854775807 < (⟨cleanW.toArray⟩ : ByteArray).size + x.size := by show ¬ 9223372036854775807 < 6 + x.size; omega
   have hs2 : ¬ 9223372036854775807 < 6 + x.size := by omega
   clear hx
   cases hst : stepL (cleanW ++ x.data.toList) with
   | none =>
    unfold StepPostL at HSt
    rw [hst] at HSt
    have HB := yH hst
    clear hst
    go_wp2_with (first
     | (go_at_call 25; refine HSt.out.mono ?_; rintro e w1 ⟨hb, rfl⟩; have L1 := yH (below_chain L.out hb); clear hb)
     | (refine wpl_alloc rfl 61 (by rfl) Tryz.zeroValue61 6 (by rfl) ?_; intro w2 cs hk hc hg hz; have B2 := yH hk; have C2 := yH hc; have L2 := yH (bl_n L1.out hg); clear hk hc hg hz; simp only [Act.put, yA, yB, yC])
     | (refine wpl_over rfl 61 (.tmp 7) (.tmp 19) (by rfl) w1.heap.size (stepVs (zeroS 0) (.slice none 0 0) (.slice none 0 0)).toList (by rfl) (by rfl) _ cs B2.out infoStep (by rw [C2.out]; rfl) (by simp [stepVs, Value.oneCell']) ?_; intro w3 hb hg hz; have B3 := yH hb; have L3 := yH (bl_g L2.out hg L1.out.size); clear hb hg hz; simp only [Act.put, yA, yB, yC]))
    go_ret2
    refine ⟨L3.out, ?_⟩
    have h := numsL_bad (lists (ws.take j)) x.data.toList (lists (ws.drop (j + 1))) HB.out
    rw [HX.out, ← lists_cut hj] at h
    rw [h]
    rfl
   | some y =>
    unfold StepPostL at HSt
    rw [hst] at HSt
    have HB := yH hst
    clear hst
    go_wp2_with (first
     | (go_at_call 25; refine HSt.out.mono ?_; rintro e w1 ⟨hb, A1, c1, A2, c2, rfl, _, _⟩; have L1 := yH (below_chain L.out hb); have M1 := yH hb; clear hb)
     | (refine wpl_alloc rfl 61 (by rfl) Tryz.zeroValue61 6 (by rfl) ?_; intro w2 cs hk hc hg hz; have B2 := yH hk; have C2 := yH hc; have L2 := yH (bl_n L1.out hg); have M2 := yH (bl_n M1.out hg); clear hk hc hg hz; simp only [Act.put, yA, yB, yC])
     | (refine wpl_over rfl 61 (.tmp 7) (.tmp 19) (by rfl) w1.heap.size (stepVs y (.slice A1 y.bytes.length c1) (.slice A2 y.fates.length c2)).toList (by rfl) (by rfl) _ cs B2.out infoStep (by rw [C2.out]; rfl) (by simp [stepVs, Value.oneCell']) ?_; intro w3 hb hg hz; have B3 := yH hb; have y2 : w3.cell? ⟨w1.heap.size, 2, none⟩ = some (.int .i64 y.n) := B3.out.cell rfl; have L3 := yH (bl_g L2.out hg L1.out.size); have M3 := yH (bl_g M2.out hg M1.out.size); clear hb hg hz; simp only [Act.put, yA, yB, yC])
     | (refine wpl_int1 rfl (.tmp 25) (by rfl) y.n (by rfl) ?_; intro w4 hb hg hz; have B4 := yH hb; have L4 := yH (bl_n L3.out hg); have O4 := yH (own_belowR O.out (bl_n M3.out hg)); clear hb hg hz; simp only [Act.put, yA, yB, yC])
     | (refine app_src rfl (.tmp 23) (.tmp 26) 55 (by rfl) W.heap.size 3 _ 1 8 Tryz.underlying55 info_int rfl (by omega) u4 zs.length (zs.map (Value.int .i64)) (by rfl) O4.out (.slice (some ⟨w3.heap.size, 0, none⟩) 1 1) 1 [.int .i64 y.n] (by rfl) ⟨_, 1, rfl, rfl, fun _ => ⟨w3.heap.size, 0, rfl, B4.out.lt, fun jj yy hy => by rw [Nat.zero_add]; exact B4.out.cell (by rw [List.getElem?_toArray]; exact hy)⟩⟩ (by simp [Value.oneCell']) (by have := HZ.out; omega) (by have := HZ.out; omega) L4.out.size ?_; intro v5 w5 ho hg hn; have O5 := yH ho; have G5 := yH hg; clear ho hg hn; simp only [Act.put, yA, yB, yC]))
    have hB := L4.out
    go_roundg (gk - 1)
    case measure => omega
    case rel =>
     refine ⟨j + 1, zs ++ [y.n], by go_num, by omega, by omega, by omega, ?_, ?_, ?_, ?_⟩
     ·rw [lists_take hj, ← HX.out]
      exact numsL_app _ _ _ _ HN.out HB.out
     ·rw [List.length_append, HZ.out]
      rfl
     ·rw [List.length_append, List.map_append]
      exact O5.out
     ·exact L4.out.grown G5.out L4.out.size (fun k hk => by
       have h := O4.out
       rcases h.2 with ⟨rfl, _⟩ | ⟨g, cap, cur, rfl, a1, _⟩
       ·cases hk
       ·injection hk with hk
        simp only at hk
        omega)
  ·have hJ : ¬ (j : Int) < (ws.length : Int) := by omega
   obtain rfl : j = ws.length := by omega
   obtain ⟨A9, c9, rfl, _⟩ := own_slice O.out
   go_wp2
   go_ret2
   refine ⟨L.out, ?_⟩
   have h := HN.out
   rw [List.take_length] at h
   rw [h]
   exact ⟨A9, c9, rfl, O.out⟩
end Go.Proofs.YtffalfacakdhkaaGreatDoor
namespace Go.Proofs.YtffalfacakdhkaaGreatDoor
open Go.RowKit Go.Maps Go.Shelf
set_option linter.unusedVariables false
set_option linter.unusedSimpArgs false
def kvN (l : List UInt8) : Value := .string ⟨l.toArray⟩
def klN (l : List UInt8) : Lit := .string l
def cvN (db : Nat) (f : Nat) : Value := .func (.func f) #[.pointer (some ⟨db, 0, none⟩)] #[]
def nmM : List (List UInt8 × Nat) := aput (aput (aput (aput [] diskW 20) formatW 21) openW 22) checkW 23
theorem keyed_str : Keyed Tryz.prog 9 := string_keyed Tryz.underlying9
theorem keyOf_kvN {l : List UInt8} (h : l.length ≤ 1000) : keyOf Tryz.prog 9 (kvN l) = some (klN l) := WideMaps.keyOf_string_mk Tryz.underlying9 (s := ⟨l.toArray⟩) (by rw [ba_len]; unfold maxLen; omega)
theorem klN_inj {M : List (List UInt8 × Nat)} (X : List UInt8) : ∀ p ∈ M, klN p.1 = klN X → p.1 = X := fun p _ h => by injection h
theorem nmM_fst : ∀ p ∈ nmM, ∀ q ∈ nmM, p.1 = q.1 → p = q := by decide
theorem RangeIs.memL {α β : Type} [DecidableEq α] {P : Program} {k : TypeId} {kv : α → Value} {kl : α → Lit} {ve : β → Value} {w : World} {b r : Nat} {M todo : List (α × β)} (h : RangeIs P k kv kl ve w b r M todo) : ∀ q ∈ todo, q ∈ M := by
 obtain ⟨es, left, done, _, _, _, _, hp, _, _⟩ := h
 exact fun q hq => hp.mem_iff.2 (List.mem_append.2 (.inr hq))
structure LnR (W : World) (bs : List ByteArray) (db bx r : Nat) (todo : List (List UInt8 × Nat)) (wr : World) : Prop where
 rng : RangeIs Tryz.prog 9 kvN klN (cvN db) wr bx r nmM todo
 low : Below W.heap.size W wr
 wds : WdAt wr W.heap.size 0 bs
 ner : W.heap.size < r
theorem LnR.next {W : World} {bs : List ByteArray} {db bx r : Nat} {todo todo' : List (List UInt8 × Nat)} {wr w' : World} (h : LnR W bs db bx r todo wr) (hR : RangeIs Tryz.prog 9 kvN klN (cvN db) w' bx r nmM todo') (hg : wr.grownBy w' (some r)) : LnR W bs db bx r todo' w' := by
 refine ⟨hR, bl_g h.low hg (Nat.le_of_lt h.ner), fun j hj => ?_, h.ner⟩
 have h1 := h.wds j hj
 have h2 : W.heap.size < wr.heap.size := by
  cases hc : wr.heap[W.heap.size]? with
  | none => unfold World.cell? at h1; rw [hc] at h1; cases h1
  | some o => exact (Array.getElem?_eq_some_iff.1 hc).1
 rw [← h1]
 refine World.cell?_of_block (a := ⟨W.heap.size, 0 + j, none⟩) ?_
 exact hg.block _ h2 (fun e => by injection e with e; have := h.ner; simp only at e; omega)
def LnI (W : World) (bs : List ByteArray) (db bx r : Nat) (Z : List (List UInt8 × Nat) → Prop) (k : Nat) (wr : World) : Prop := ∃ todo, k = todo.length ∧ LnR W bs db bx r todo wr ∧ Z todo
section
variable {W : World} {db : Nat}
set_option maxRecDepth 100000 in
set_option maxHeartbeats 2000000 in
theorem ln_cmd (ht : LnT W) (L : List UInt8) (hL : L.length ≤ 1000) (a : List UInt8) (asL : List (List UInt8)) (hw : wordsL L = a :: asL) (has : asL.length ≤ 100) (hal : ∀ x ∈ asL, x.length ≤ 1000) (f : Nat) (hf : (a, f) ∈ nmM)
  (fn : Func) (code : Code) (hf1 : Tryz.prog.funcs[f]? = some fn) (hname : (fn.name == "runtime.NumGoroutine") = false) (hfb : fn.body = some code) (R : Int → World → Prop)
  (hbad : numsL asL = none → ∀ w', Below W.heap.size W w' → R 310 w')
  (hcall : ∀ zs, numsL asL = some zs → ∀ (W1 : World) (A : Option Addr) (B c : Nat), Below W.heap.size W W1 → W1.ownsRow B 3 1 (.slice A zs.length c) zs.length (zs.map (Value.int .i64)) → Calls Tryz.prog f #[.pointer (some ⟨db, 0, none⟩), .slice A zs.length c] W1 fun e w' => ∃ r, e = .returned (.int .i64 r) ∧ R r w') :
  Calls Tryz.prog 15 #[.pointer (some ⟨db, 0, none⟩), .string ⟨L.toArray⟩] W fun e w' => ∃ r, e = .returned (.int .i64 r) ∧ R r w' := by
 have HT := yH ht
 have HEnt := yH (fun args W => enter_run (P := Tryz.prog) hf1 hname hfb args W)
 have HB := yH hbad
 have HC := yH hcall
 obtain ⟨m, hm⟩ := ht.mx
 have HM := yH hm
 obtain ⟨s, hs⟩ : ∃ s : ByteArray, s = ⟨L.toArray⟩ := ⟨_, rfl⟩
 have hsL : s.data.toList = L := by rw [hs]
 have hss : s.size ≤ 1000 := by rw [hs, ba_len]; exact hL
 obtain ⟨b0, ws, hsp, hwd, hcnt⟩ := split_ws s
 rw [hsL, hw] at hwd
 injection hwd with hwd1 hwd2
 have hc := Lib.countB_le ⟨#[32]⟩ (by decide) s.size s (Nat.le_refl _)
 have hwl : ws.length ≤ 100 := by rw [hwd2] at has; unfold lists at has; rw [List.length_map] at has; exact has
 have HSp := yH hsp
 have HCn := yH hcnt
 have HW := yH (And.intro hwd1 hwd2)
 have HF := yH hf
 have HWl := yH (show ∀ x ∈ ws, x.size ≤ 1000 from fun x hx => by
  have := hal x.data.toList (by rw [hwd2]; exact List.mem_map.2 ⟨x, hx, rfl⟩)
  simpa using this)
 rw [← hs]
 clear ht hbad hcall hm hs hsL hsp hwd1 hwd2 hcnt hf hf1 hname hfb hw has hL hal
 go_enter Tryz.func15, Tryz.ntmps15
 go_wp2_with fail
 refine (Tryz.strings_Split s ⟨#[32]⟩ m W (by omega) (cell_low HM.out (Below.refl _ _)) (by decide)).mono ?_
 rintro ev wb ⟨rfl, hwb⟩
 rw [HSp.out] at hwb
 have Lb := yH (show Below W.heap.size W wb by rw [hwb]; exact (Below.refl _ _).alloc (Nat.le_refl _) _)
 have Wb := yH (show WdAt wb W.heap.size 0 (b0 :: ws) by
  intro j hj
  rw [hwb, Nat.zero_add]
  refine (Blk.made W _ _).cell ?_
  rw [List.getElem?_toArray, List.getElem?_map, List.getElem?_eq_getElem hj]; rfl)
 have GSz := yH (show W.heap.size < wb.heap.size by rw [hwb]; simp)
 clear hwb
 rw [HCn.out]
 clear hc
 have hmm := @run_makeMap Tryz.prog
 go_upto_region 3 with (first
  | (refine wpl_mins rfl 54 (.tmp 14) (.const (.string ⟨#[99, 104, 101, 99, 107]⟩)) (.tmp 22) rfl keyed_str Tryz.underlying54 D3.out (of_decide_eq_true (by kernel_rfl)) rfl checkW rfl 23 rfl (klN_inj _) (keyOf_kvN (by decide)) ?_; intro wd4 hm hg; have D4 := yH hm; have GD4 := yH hg; clear hm hg)
  | (refine wpl_mins rfl 54 (.tmp 14) (.const (.string ⟨#[111, 112, 101, 110]⟩)) (.tmp 20) rfl keyed_str Tryz.underlying54 D2.out (of_decide_eq_true (by kernel_rfl)) rfl openW rfl 22 rfl (klN_inj _) (keyOf_kvN (by decide)) ?_; intro wd3 hm hg; have D3 := yH hm; have GD3 := yH hg; clear hm hg)
  | (refine wpl_mins rfl 54 (.tmp 14) (.const (.string ⟨#[102, 111, 114, 109, 97, 116]⟩)) (.tmp 18) rfl keyed_str Tryz.underlying54 D1.out (of_decide_eq_true (by kernel_rfl)) rfl formatW rfl 21 rfl (klN_inj _) (keyOf_kvN (by decide)) ?_; intro wd2 hm hg; have D2 := yH hm; have GD2 := yH hg; clear hm hg)
  | (refine wpl_mins rfl 54 (.tmp 14) (.const (.string ⟨#[100, 105, 115, 107]⟩)) (.tmp 16) rfl keyed_str Tryz.underlying54 (MapIs.made wb Tryz.prog _ kvN klN (cvN db)) (of_decide_eq_true (by kernel_rfl)) rfl diskW rfl 20 rfl (klN_inj _) (keyOf_kvN (by decide)) ?_; intro wd1 hm hg; have D1 := yH hm; have GD1 := yH hg; clear hm hg)
  | (refine wpl_mrange rfl 54 (.tmp 23) rfl keyed_str Tryz.underlying54 D4.out rfl ?_; intro w1 hr hg hz; have R1 := yH hr; have G1 := yH hg; clear hr hg hz))
 have LD := yH (show Below wb.heap.size wb wd4 from (bl_g (bl_g (bl_g (bl_g ((Below.refl _ wb).alloc (Nat.le_refl _) _) GD1.out (Nat.le_refl _)) GD2.out (Nat.le_refl _)) GD3.out (Nat.le_refl _)) GD4.out (Nat.le_refl _)))
 have L1 := yH (below_chain Lb.out (bl_n LD.out G1.out))
 have GB := yH LD.out.size
 have N1 := yH (show LnR W (b0 :: ws) db wb.heap.size wd4.heap.size nmM w1 from ⟨R1.out, L1.out, Wb.out.below (bl_n LD.out G1.out), Nat.lt_of_lt_of_le GSz.out LD.out.size⟩)
 clear hmm D1 GD1 D2 GD2 D3 GD3 D4 GD4 R1 G1 LD L1 Wb
 go_frame
 go_loopg [6] 4 (fun k nv wr => LnI W (b0 :: ws) db wb.heap.size wd4.heap.size (fun todo => (a, f) ∈ todo) k wr)
 case atStart => exact ⟨nmM, rfl, N1.out, HF.out⟩
 case round =>
  obtain ⟨todo, hk, hN, hz⟩ := hrel
  have N := yH hN
  have HK := yH hk
  have HZ := yH hz
  clear hN hk hz N1
  go_wp2_with (refine wpl_mnext rfl (.tmp 24) rfl keyed_str N.out.rng rfl (fun p _ q _ h => by injection h) ?_ ?_)
  ·intro htd
   have hz := HZ.out
   rw [htd] at hz
   cases hz
  ·rintro nm fc todo' w1' hperm hR hg hsz hen
   have M := yH (N.out.next hR hg)
   have HP := yH hperm
   have hc0 : w1'.cell? ⟨W.heap.size, 0, none⟩ = some (.string b0) := M.out.wds 0 (by simp)
   have hmem : (nm, fc) ∈ nmM := N.out.rng.memL _ (hperm.mem_iff.2 (List.mem_cons_self ..))
   clear hR hg hsz hperm
   obtain ⟨sn, hsn⟩ : ∃ sn : ByteArray, sn = ⟨nm.toArray⟩ := ⟨_, rfl⟩
   have ek : kvN nm = .string sn := by rw [hsn]; rfl
   have ec : cvN db fc = .func (.func fc) #[.pointer (some ⟨db, 0, none⟩)] #[] := rfl
   rw [ek, ec] at hen
   rw [ek, ec]
   clear ek ec
   by_cases hnm : nm = a
   ·subst hnm
    have e0 : (b0.toList == nm) = true := by rw [ba_list, HW.out.1]; exact beq_self_eq_true _
    have hfc : fc = f := by
     have h := nmM_fst _ hmem _ HF.out rfl
     injection h
    subst hfc
    have HA := yH (show WdAt w1' W.heap.size 1 ws from fun jj hj => by
     have h := M.out.wds (jj + 1) (by simp; omega)
     rw [show 0 + (jj + 1) = 1 + jj by omega] at h
     simpa using h)
    have L1 := yH M.out.low
    clear HZ N HK HP hmem
    have hw1 : (1 : Int) ≤ (ws.length : Int) + 1 := by omega
    have HN := yH (fun A (hA : ws ≠ [] → A = some ⟨W.heap.size, 1, none⟩) => dsk_numbers (HT.out.below L1.out) A W.heap.size 1 ws.length ws hA HA.out hwl HWl.out (Nat.le_refl _))
    unfold NmPost at HN
    rw [← HW.out.2] at HN
    cases hz : numsL asL with
    | none =>
     rw [hz] at HN
     have HZ := yH hz
     clear hz
     go_wp2_with (go_at_call 24; refine (HN.out _ (fun h => by simp [h])).mono ?_; rintro e w2 ⟨hb, rfl⟩; have L2 := yH (below_chain L1.out hb); clear hb)
     all_goals (go_ret; exact ⟨310, rfl, HB.out HZ.out _ L2.out⟩)
    | some zs =>
     rw [hz] at HN
     have HZ := yH hz
     clear hz
     go_wp2_with (go_at_call 24; refine (HN.out _ (fun h => by simp [h])).mono ?_; rintro e w2 ⟨hb, A2, c2, rfl, ho⟩; have L2 := yH (below_chain L1.out hb); have O2 := yH ho; clear hb ho)
     all_goals (
      rw [HEnt.out]
      rw [Oper.upon_enter]
      refine (HC.out zs HZ.out w2 A2 _ c2 L2.out O2.out).mono ?_
      rintro e w3 ⟨r, rfl, hr⟩
      have R3 := yH hr
      clear hr
      go_wp2
      go_ret
      exact ⟨r, rfl, R3.out⟩)
   ·have e0 : (b0.toList == nm) = false := by rw [ba_list, beq_eq_false_iff_ne, ← HW.out.1]; exact fun e => hnm e.symm
    go_wp2
    go_roundg todo'.length
    case measure => rw [HK.out, HP.out.length_eq, List.length_cons]; omega
    case rel =>
     refine ⟨todo', rfl, M.out, ?_⟩
     have h := HP.out.mem_iff.1 HZ.out
     rcases List.mem_cons.1 h with h | h
     ·injection h with h1 h2
      exact absurd h1.symm hnm
     ·exact h
set_option maxRecDepth 100000 in
set_option maxHeartbeats 2000000 in
theorem ln_step (ht : LnT W) (L : List UInt8) (hL : L.length ≤ 1000) (a : List UInt8) (asL : List (List UInt8)) (hw : wordsL L = a :: asL) (has : asL.length ≤ 100) (hno : ∀ q ∈ nmM, q.1 ≠ a) (R : Int → World → Prop) (P : Array Value → World → Prop)
  (hbad : stepL L = none → ∀ w', Below W.heap.size W w' → R 310 w')
  (hstep : ∀ y, stepL L = some y → ∀ (W1 : World) (A : Option Addr) (c : Nat) (A' : Option Addr) (c' : Nat), Below W.heap.size W W1 → Calls Tryz.prog 27 #[.pointer (some ⟨db, 0, none⟩), .agg (stepVs y (.slice A y.bytes.length c) (.slice A' y.fates.length c'))] W1 fun e w' => ∃ T, e = .returned (.agg T) ∧ P T w')
  (htell : ∀ T W1, P T W1 → Calls Tryz.prog 26 #[.pointer (some ⟨db, 0, none⟩), .agg T] W1 fun e w' => e = .returned (.int .i64 0) ∧ R 0 w') :
  Calls Tryz.prog 15 #[.pointer (some ⟨db, 0, none⟩), .string ⟨L.toArray⟩] W fun e w' => ∃ r, e = .returned (.int .i64 r) ∧ R r w' := by
 have HT := yH ht
 have HB := yH hbad
 have HC := yH hstep
 have HTl := yH htell
 have HNo := yH hno
 obtain ⟨m, hm⟩ := ht.mx
 have HM := yH hm
 obtain ⟨s, hs⟩ : ∃ s : ByteArray, s = ⟨L.toArray⟩ := ⟨_, rfl⟩
 have hsL : s.data.toList = L := by rw [hs]
 have hss : s.size ≤ 1000 := by rw [hs, ba_len]; exact hL
 obtain ⟨b0, ws, hsp, hwd, hcnt⟩ := split_ws s
 rw [hsL, hw] at hwd
 injection hwd with hwd1 hwd2
 have hc := Lib.countB_le ⟨#[32]⟩ (by decide) s.size s (Nat.le_refl _)
 have hwl : ws.length ≤ 100 := by rw [hwd2] at has; unfold lists at has; rw [List.length_map] at has; exact has
 have HSp := yH hsp
 have HCn := yH hcnt
 have HW := yH (And.intro hwd1 hwd2)
 have HSL := yH hsL
 rw [← hs]
 clear ht hbad hstep htell hno hm hs hsL hsp hwd1 hwd2 hcnt hw has hL
 go_enter Tryz.func15, Tryz.ntmps15
 go_wp2_with fail
 refine (Tryz.strings_Split s ⟨#[32]⟩ m W (by omega) (cell_low HM.out (Below.refl _ _)) (by decide)).mono ?_
 rintro ev wb ⟨rfl, hwb⟩
 rw [HSp.out] at hwb
 have Lb := yH (show Below W.heap.size W wb by rw [hwb]; exact (Below.refl _ _).alloc (Nat.le_refl _) _)
 have Wb := yH (show WdAt wb W.heap.size 0 (b0 :: ws) by
  intro j hj
  rw [hwb, Nat.zero_add]
  refine (Blk.made W _ _).cell ?_
  rw [List.getElem?_toArray, List.getElem?_map, List.getElem?_eq_getElem hj]; rfl)
 have GSz := yH (show W.heap.size < wb.heap.size by rw [hwb]; simp)
 clear hwb
 rw [HCn.out]
 clear hc
 have hmm := @run_makeMap Tryz.prog
 go_upto_region 3 with (first
  | (refine wpl_mins rfl 54 (.tmp 14) (.const (.string ⟨#[99, 104, 101, 99, 107]⟩)) (.tmp 22) rfl keyed_str Tryz.underlying54 D3.out (of_decide_eq_true (by kernel_rfl)) rfl checkW rfl 23 rfl (klN_inj _) (keyOf_kvN (by decide)) ?_; intro wd4 hm hg; have D4 := yH hm; have GD4 := yH hg; clear hm hg)
  | (refine wpl_mins rfl 54 (.tmp 14) (.const (.string ⟨#[111, 112, 101, 110]⟩)) (.tmp 20) rfl keyed_str Tryz.underlying54 D2.out (of_decide_eq_true (by kernel_rfl)) rfl openW rfl 22 rfl (klN_inj _) (keyOf_kvN (by decide)) ?_; intro wd3 hm hg; have D3 := yH hm; have GD3 := yH hg; clear hm hg)
  | (refine wpl_mins rfl 54 (.tmp 14) (.const (.string ⟨#[102, 111, 114, 109, 97, 116]⟩)) (.tmp 18) rfl keyed_str Tryz.underlying54 D1.out (of_decide_eq_true (by kernel_rfl)) rfl formatW rfl 21 rfl (klN_inj _) (keyOf_kvN (by decide)) ?_; intro wd2 hm hg; have D2 := yH hm; have GD2 := yH hg; clear hm hg)
  | (refine wpl_mins rfl 54 (.tmp 14) (.const (.string ⟨#[100, 105, 115, 107]⟩)) (.tmp 16) rfl keyed_str Tryz.underlying54 (MapIs.made wb Tryz.prog _ kvN klN (cvN db)) (of_decide_eq_true (by kernel_rfl)) rfl diskW rfl 20 rfl (klN_inj _) (keyOf_kvN (by decide)) ?_; intro wd1 hm hg; have D1 := yH hm; have GD1 := yH hg; clear hm hg)
  | (refine wpl_mrange rfl 54 (.tmp 23) rfl keyed_str Tryz.underlying54 D4.out rfl ?_; intro w1 hr hg hz; have R1 := yH hr; have G1 := yH hg; clear hr hg hz))
 have LD := yH (show Below wb.heap.size wb wd4 from (bl_g (bl_g (bl_g (bl_g ((Below.refl _ wb).alloc (Nat.le_refl _) _) GD1.out (Nat.le_refl _)) GD2.out (Nat.le_refl _)) GD3.out (Nat.le_refl _)) GD4.out (Nat.le_refl _)))
 have L1 := yH (below_chain Lb.out (bl_n LD.out G1.out))
 have GB := yH LD.out.size
 have N1 := yH (show LnR W (b0 :: ws) db wb.heap.size wd4.heap.size nmM w1 from ⟨R1.out, L1.out, Wb.out.below (bl_n LD.out G1.out), Nat.lt_of_lt_of_le GSz.out LD.out.size⟩)
 clear hmm D1 GD1 D2 GD2 D3 GD3 D4 GD4 R1 G1 LD L1 Wb
 go_frame
 go_loopg [6] 4 (fun k nv wr => LnI W (b0 :: ws) db wb.heap.size wd4.heap.size (fun _ => True) k wr)
 case atStart => exact ⟨nmM, rfl, N1.out, trivial⟩
 case round =>
  obtain ⟨todo, hk, hN, _⟩ := hrel
  have N := yH hN
  have HK := yH hk
  clear hN hk N1
  go_wp2_with (refine wpl_mnext rfl (.tmp 24) rfl keyed_str N.out.rng rfl (fun p _ q _ h => by injection h) ?_ ?_)
  ·intro htd
   have L1 := yH N.out.low
   have HSt := yH (step_any s wr (HT.out.below L1.out) (by omega))
   unfold StepPostL at HSt
   rw [HSL.out] at HSt
   clear htd N HK
   cases hst : stepL L with
   | none =>
    rw [hst] at HSt
    have HZ := yH hst
    clear hst
    go_wp2_with (first
     | (go_at_call 25; refine HSt.out.mono ?_; rintro e w1 ⟨hb, rfl⟩; have L2 := yH (below_chain L1.out hb); clear hb)
     | (refine wpl_alloc rfl 61 (by rfl) Tryz.zeroValue61 6 (by rfl) ?_; intro w2 cs hk hc hg hz; have B2 := yH hk; have C2 := yH hc; have L3 := yH (bl_n L2.out hg); clear hk hc hg hz; simp only [Act.put, yA, yB, yC])
     | (refine wpl_over rfl 61 (.tmp 10) (.tmp 49) (by rfl) w1.heap.size (stepVs (zeroS 0) (.slice none 0 0) (.slice none 0 0)).toList (by rfl) (by rfl) _ cs B2.out infoStep (by rw [C2.out]; rfl) (by simp [stepVs, Value.oneCell']) ?_; intro w3 hb hg hz; have L4 := yH (bl_g L3.out hg L2.out.size); clear hb hg hz; simp only [Act.put, yA, yB, yC]))
    go_ret
    exact ⟨310, rfl, HB.out HZ.out _ L4.out⟩
   | some y =>
    rw [hst] at HSt
    have HZ := yH hst
    clear hst
    go_wp2_with (first
     | (go_at_call 25; refine HSt.out.mono ?_; rintro e w1 ⟨hb, A1, c1, A2, c2, rfl, _, _⟩; have L2 := yH (below_chain L1.out hb); clear hb)
     | (refine wpl_alloc rfl 61 (by rfl) Tryz.zeroValue61 6 (by rfl) ?_; intro w2 cs hk hc hg hz; have B2 := yH hk; have C2 := yH hc; have L3 := yH (bl_n L2.out hg); clear hk hc hg hz; simp only [Act.put, yA, yB, yC])
     | (refine wpl_over rfl 61 (.tmp 10) (.tmp 49) (by rfl) w1.heap.size (stepVs y (.slice A1 y.bytes.length c1) (.slice A2 y.fates.length c2)).toList (by rfl) (by rfl) _ cs B2.out infoStep (by rw [C2.out]; rfl) (by simp [stepVs, Value.oneCell']) ?_; intro w3 hb hg hz; have B3 := yH hb; have L4 := yH (bl_g L3.out hg L2.out.size); clear hb hg hz; simp only [Act.put, yA, yB, yC])
     | (refine wpl_load_blk rfl 61 (.tmp 10) (by rfl) w1.heap.size (by rfl) _ _ (show Blk w3 w1.heap.size 61 (stepVs y (.slice A1 y.bytes.length c1) (.slice A2 y.fates.length c2)) from by have h := B3.out; rwa [Array.toArray_toList] at h) _ Tryz.underlying61 rfl 6 infoStep rfl ?_; simp only [Act.put, yA, yB, yC])
     | (go_at_call 27; refine (HC.out y HZ.out w3 A1 c1 A2 c2 L4.out).mono ?_; rintro e w4 ⟨T, rfl, hp⟩; have P4 := yH hp; clear hp)
     | (go_at_call 26; refine (HTl.out T w4 P4.out).mono ?_; rintro e w5 ⟨rfl, hr⟩; have R5 := yH hr; clear hr))
    go_ret
    exact ⟨0, rfl, R5.out⟩
  ·rintro nm fc todo' w1' hperm hR hg hsz hen
   have M := yH (N.out.next hR hg)
   have HP := yH hperm
   have hc0 : w1'.cell? ⟨W.heap.size, 0, none⟩ = some (.string b0) := M.out.wds 0 (by simp)
   have hmem : (nm, fc) ∈ nmM := N.out.rng.memL _ (hperm.mem_iff.2 (List.mem_cons_self ..))
   have hnm : nm ≠ a := HNo.out _ hmem
   clear hR hg hsz hperm
   obtain ⟨sn, hsn⟩ : ∃ sn : ByteArray, sn = ⟨nm.toArray⟩ := ⟨_, rfl⟩
   have ek : kvN nm = .string sn := by rw [hsn]; rfl
   have ec : cvN db fc = .func (.func fc) #[.pointer (some ⟨db, 0, none⟩)] #[] := rfl
   rw [ek, ec] at hen
   rw [ek, ec]
   clear ek ec
   have e0 : (b0.toList == nm) = false := by rw [ba_list, beq_eq_false_iff_ne, ← HW.out.1]; exact fun e => hnm e.symm
   go_wp2
   go_roundg todo'.length
   case measure => rw [HK.out, HP.out.length_eq, List.length_cons]; omega
   case rel => exact ⟨todo', rfl, M.out, trivial⟩
end
end Go.Proofs.YtffalfacakdhkaaGreatDoor
namespace Go.Proofs.YtffalfacakdhkaaGreatDoor
open Go.RowKit Go.Maps Go.Shelf
set_option linter.unusedVariables false
set_option linter.unusedSimpArgs false
attribute [local go_sem] Oper.semAt_some

/-- A block of a loop: no cells, no map. -/
def LoopObj (o : Obj) : Prop := o.isCells = false ∧ ∀ es c, o ≠ .map es c
theorem loopObj_loop (l : Loop) : LoopObj (.loop l) := ⟨rfl, fun _ _ h => by cases h⟩
theorem loopObj_def (d : Option (List Deferred)) : LoopObj (.deferred d) := ⟨rfl, fun _ _ h => by cases h⟩
/-- Loops that lie from B on stay. -/
structure KeepsLp (B : Nat) (W W' : World) : Prop where
 size : W.heap.size ≤ W'.heap.size
 same : ∀ (k : Nat) (o : Obj), B ≤ k → W.heap[k]? = some o → LoopObj o → W'.heap[k]? = some o
/-- How a round is left: it goes on. -/
def spPost (B : Nat) (Bs Bp Bz : Nat) (R : List UInt8) (I : World → Prop) (W : World) : Exit → Act → World → Prop
 | .normal, _, W' => KeepsLp B W W' ∧ I W' ∧ SpB Bs Bp Bz R W'
 | _, _, _ => False
theorem SpB.kept {Bs Bp Bz : Nat} {R : List UInt8} {W W' : World} {row : Option Nat} (h : SpB Bs Bp Bz R W) (hg : W.grownBy W' row) (h1 : some Bs ≠ row) (h2 : some Bp ≠ row) (h3 : some Bz ≠ row) : SpB Bs Bp Bz R W' := ⟨Boxed.kept h.1 hg h1, Boxed.kept h.2.1 hg h2, Boxed.kept h.2.2 hg h3⟩
theorem wpIn_range_sp {n : Nat} {g : Operand} {ps : Array Tmp} {assign body : Code} {Q : Exit → Act → World → Prop} {a : Act} {w : World}
  (h1 : 2 ≤ n) {Bs Bp Bz : Nat} (hne : Bs ≠ Bp ∧ Bs ≠ Bz) (ls : List (List UInt8)) (hls : 0 < ls.length) (hno : ∀ a ∈ ls, 10 ∉ a) (hsz : ∀ k, (joinN (ls.drop k)).length ≤ 2000000) (hBs : Bs < w.heap.size) (hBp : Bp < w.heap.size) (hBz : Bz < w.heap.size)
  (hg : a.eval g = .func (.func 30) #[] #[.pointer (some ⟨Bp, 0, none⟩), .pointer (some ⟨Bs, 0, none⟩), .pointer (some ⟨Bz, 0, none⟩)]) (hps : ps.size = 1)
  (I : Nat → World → Prop) (hI : ∀ k W W' row, I k W → W.grownBy W' row → (∀ r, row = some r → (r = Bs ∧ ∃ v, Boxed W Bs 9 v) ∨ (w.heap.size ≤ r ∧ ∃ o : Obj, W.heap[r]? = some o ∧ LoopObj o)) → I k W')
  (h0 : I 0 w) (hB : SpB Bs Bp Bz (joinN ls) w) (a₁ : Nat → Act)
  (hassign : ∀ (l k : Nat) (W : World) (K : Act → World → Prop), K (a₁ k) W →
   assign.wpIn (Fence.wide.inRound l) (n - 1 - 1) Tryz.prog (Exit.then K (fun _ _ _ => False)) { tmps := (ps.zip #[.string ⟨(ls.getD k []).toArray⟩]).foldl (fun t (p, v) => t.setIfInBounds p v) a.tmps, defers := [] } W)
  (hbody : ∀ (l k : Nat) (W : World), k < ls.length → I k W → SpB Bs Bp Bz (joinN (ls.drop k)) W → body.wpIn (Fence.wide.inRound l) (n - 1 - 1) Tryz.prog (spPost w.heap.size Bs Bp Bz (joinN (ls.drop k)) (I (k + 1)) W) (a₁ k) W)
  (hdone : ∀ (D : Nat) (W : World), w.heap.size ≤ D → I ls.length W → W.heap[D]? = some (.deferred (some [])) → Q .normal { a with defers := { target := .collected D, args := #[] } :: a.defers } W) :
  (Code.rangeFunc g ps assign body).wpIn Fence.wide n Tryz.prog Q a w := by
 refine wpIn_rangeFunc ?_
 intro fn hfn
 rw [show Fence.wide.round = none from rfl]
 obtain ⟨rec, hrec⟩ : ∃ rec : LoopState → Option Code → Loop, rec = fun st pe => { state := st, pending := pe, fn, tmps := a.tmps, params := ps, assign, body, defers := w.heap.size } := ⟨_, rfl⟩
 obtain ⟨W1, hW1⟩ : ∃ W1, (w.alloc (.deferred (some []))).alloc (.loop (rec .ready none)) = W1 := ⟨_, rfl⟩
 have hL1 : W1.heap[w.heap.size + 1]? = some (.loop (rec .ready none)) := by
  rw [← hW1]; have := World.alloc_heap_new (w.alloc (.deferred (some []))) (.loop (rec .ready none)); rwa [World.size_alloc] at this
 have hK1 : W1.heap[w.heap.size]? = some (.deferred (some [])) := by
  rw [← hW1]; exact (Below.heap_alloc _ _ _ (by simp)).trans (World.alloc_heap_new w _)
 have hI1 : I 0 W1 := by rw [← hW1]; exact hI _ _ _ none (hI _ _ _ none h0 (World.grownBy_alloc w _ none) (by simp)) (World.grownBy_alloc _ _ none) (by simp)
 have hB1 : SpB Bs Bp Bz (joinN ls) W1 := by rw [← hW1]; exact (hB.kept (World.grownBy_alloc w _ none) (by simp) (by simp) (by simp)).kept (World.grownBy_alloc _ _ none) (by simp) (by simp) (by simp)
 refine ⟨w.heap.size + 1, [{ target := .collected w.heap.size, args := #[] }], W1, { target := .fn (.func 30) #[.pointer (some ⟨Bp, 0, none⟩), .pointer (some ⟨Bs, 0, none⟩), .pointer (some ⟨Bz, 0, none⟩)], args := #[.func (.yield (w.heap.size + 1)) #[] #[]] }, W1, 30,
  #[.func (.yield (w.heap.size + 1)) #[] #[]] ++ #[.pointer (some ⟨Bp, 0, none⟩), .pointer (some ⟨Bs, 0, none⟩), .pointer (some ⟨Bz, 0, none⟩)], W1, ?_, ?_, ?_, ?_, fun _ => by omega, ?_⟩
 ·rw [← hW1, hrec]; exact run_enterLoop_outer _ _ _ _ _
 ·simp only [resolve, hg]
  simp [go_sem]
 ·intro f' hf'; trivial
 ·have eg := enters_of Tryz.func30 (by kernel_rfl) rfl
  simp [invoke, go_sem, eg]
 ·refine (sp_in (n - 1) (by omega) (w.heap.size + 1) Bs Bp Bz hne ls hls hno hsz
   (fun k W => I k W ∧ W.heap[w.heap.size + 1]? = some (.loop (rec .ready none)) ∧ W.heap[w.heap.size]? = some (.deferred (some [])))
   (fun k A B row hs hg' hr => ⟨hI k A B row hs.1 hg' (fun r e => .inl (hr r e)),
    (hg'.block _ (Array.getElem?_eq_some_iff.1 hs.2.1).1 (fun e => by have := (hr _ e.symm).1; omega)).trans hs.2.1,
    (hg'.block _ (Array.getElem?_eq_some_iff.1 hs.2.2).1 (fun e => by have := (hr _ e.symm).1; omega)).trans hs.2.2⟩)
   ?_ W1 ⟨hI1, hL1, hK1⟩ hB1).mono ?_
  ·-- one round
   rintro k W hk ⟨hi, hl, hkk⟩ hSx
   have hlt : w.heap.size + 1 < W.heap.size := (Array.getElem?_eq_some_iff.1 hl).1
   have hy := run_yield (P := Tryz.prog) (args := #[.string ⟨(ls.getD k []).toArray⟩]) hl (by rw [hrec]; simpa using hps.symm)
   rw [hrec] at hy
   refine ⟨fn, _, assign, body, hy, roundIn_of_wpIn hfn (hassign _ k W _ ⟨_, run_beginRound hl (by rw [hrec]), ?_⟩)⟩
   have hl2 : (W.putObj (w.heap.size + 1) (.loop { rec .ready none with state := .busy })).heap[w.heap.size + 1]? = some (.loop { rec .ready none with state := .busy }) := World.putObj_heap_same hlt
   have hk2 : (W.putObj (w.heap.size + 1) (.loop { rec .ready none with state := .busy })).heap[w.heap.size]? = some (.deferred (some [])) := (World.putObj_heap_other (by omega)).trans hkk
   have hi2 : I k (W.putObj (w.heap.size + 1) (.loop { rec .ready none with state := .busy })) := hI _ _ _ _ hi (grownBy_putObj' _ _ _) (fun r e => by injection e with e; subst e; exact .inr ⟨by omega, _, hl, loopObj_loop _⟩)
   have hS2 := hSx.kept (grownBy_putObj' W (w.heap.size + 1) (.loop { rec .ready none with state := .busy })) (by simp; omega) (by simp; omega) (by simp; omega)
   refine wpIn_mono (hbody _ k _ hk hi2 hS2) ?_
   rintro e a3 W3 hp
   cases e with
   | normal =>
    obtain ⟨hk3, hi3, hS3⟩ := hp
    have hl3 := hk3.same _ _ (by omega) hl2 (loopObj_loop _)
    have hd3 := hk3.same _ _ (Nat.le_refl _) hk2 (loopObj_def _)
    have hr := run_endRound (P := Tryz.prog) none hl3
    rw [hrec] at hr
    refine ⟨_, _, hr, rfl, ⟨hI _ _ _ _ hi3 (grownBy_putObj' _ _ _) (fun r e => by injection e with e; subst e; exact .inr ⟨by omega, _, hl3, loopObj_loop _⟩), ?_, ?_⟩, hS3.kept (grownBy_putObj' _ _ _) (by simp; omega) (by simp; omega) (by simp; omega)⟩
    ·rw [hrec]; exact World.putObj_heap_same (Array.getElem?_eq_some_iff.1 hl3).1
    ·exact (World.putObj_heap_other (by omega)).trans hd3
   | ret => exact hp.elim
   | exit id => exact hp.elim
   | goto t => exact hp.elim
   | panic ch => exact hp.elim
   | outgrown => exact hp.elim
  ·rintro e W2 ⟨⟨v, rfl⟩, hi, hl, hkk⟩
   refine ⟨none, _, by have := run_endLoop (P := Tryz.prog) hl (by rw [hrec]; simp); rw [hrec] at this; exact this, hdone _ _ (Nat.le_refl _) (hI _ _ _ _ hi (grownBy_putObj' _ _ _) (fun r e => by injection e with e; subst e; exact .inr ⟨by omega, _, hl, loopObj_loop _⟩)) ((World.putObj_heap_other (by omega)).trans hkk)⟩
end Go.Proofs.YtffalfacakdhkaaGreatDoor
