/-
  what this claim needs of: DkW1, DkW2, DkW3, DkL6, DkW4 (written by cut.py).
-/
import Derived.Test.YtffalfacakdhkaaGreatDoorDDlPlain
import Derived.Test.YtffalfacakdhkaaGreatDoorDDkL3
import Derived.Test.YtffalfacakdhkaaGreatDoorDDkI6
import Derived.Test.YtffalfacakdhkaaGreatDoorDDkLaid
import Derived.Test.YtffalfacakdhkaaGreatDoorDHuffSpec
namespace Go.Proofs.YtffalfacakdhkaaGreatDoor
open Go.RowKit
set_option linter.unusedVariables false
set_option linter.unusedSimpArgs false

def linesF : List UInt8 → List UInt8 → List (List UInt8)
 | [], cur => [cur]
 | b :: r, cur => if b = 10 then cur :: linesF r [] else linesF r (cur ++ [b])
def strVL (l : List UInt8) : Value := .string ⟨l.toArray⟩
def LnsI (l : List UInt8) (n : Nat) (w : World) (k : Nat) (ov av iv : Value) (wr : World) : Prop :=
 ∃ (i t : Nat) (ds : List (List UInt8)), iv = .int .i64 ((i : Nat) : Int) ∧ av = .int .i64 ((t : Nat) : Int) ∧ i + k ≤ n ∧ n ≤ i + k ∧ ds.length ≤ i ∧ wr.ownsRow w.heap.size 9 1 ov ds.length (ds.map strVL) ∧ Below w.heap.size w wr ∧
  t ≤ i ∧ linesF l [] = ds ++ linesF (l.drop i) ((l.take i).drop t)
theorem sub_strL (s : ByteArray) (l : List UInt8) (h : s = ⟨l.toArray⟩) (t i : Nat) : (s.extract t i) = ⟨((l.take i).drop t).toArray⟩ := by
 subst h
 apply ByteArray.ext
 simp [List.extract, List.drop_take]
theorem take_snocL (l : List UInt8) {i : Nat} (h : i < l.length) : l.take (i + 1) = l.take i ++ [l.getD i 0] := by
 rw [List.take_add_one, List.getD_eq_getElem?_getD, List.getElem?_eq_getElem h]
 simp
theorem drop_consL (l : List UInt8) {i : Nat} (h : i < l.length) : l.drop i = l.getD i 0 :: l.drop (i + 1) := by
 rw [List.drop_eq_getElem_cons h, List.getD_eq_getElem?_getD, List.getElem?_eq_getElem h]
 rfl
theorem infoStrL : (Tryz.prog.info? 9).map (fun i => (i.zero, i.size, i.bytes)) = some (some (.string ⟨#[]⟩), 1, 16) := by kernel_rfl
theorem len_baL (s : ByteArray) : s.data.toList.length = s.size := by rw [Array.length_toList]; rfl
theorem src_str {w : World} (s : ByteArray) : Src (w.alloc (Obj.cells #[Value.string s] 9)) 1 (.slice (some ⟨w.heap.size, 0, none⟩) 1 1) 1 [Value.string s] :=
 ⟨_, 1, rfl, rfl, fun _ => ⟨w.heap.size, 0, rfl, (Blk.made w _ _).lt, fun jj yy hy => by rw [Nat.zero_add]; exact (Blk.made w _ _).cell (by rw [List.getElem?_toArray]; exact hy)⟩⟩
set_option maxRecDepth 100000 in
set_option maxHeartbeats 1600000 in
theorem rlines_any (s : ByteArray) (w : World) (hn : s.size ≤ 1048576) :
  Calls Tryz.prog 8 #[.string s] w fun e w' => ∃ v, e = .returned v ∧ w'.ownsRow w.heap.size 9 1 v (linesF s.data.toList []).length ((linesF s.data.toList []).map strVL) ∧ Below w.heap.size w w' := by
 obtain ⟨l, hl⟩ : ∃ l, l = s.data.toList := ⟨_, rfl⟩
 have HLs := yH hl
 have HLn := yH (show l.length = s.size by rw [hl, len_baL])
 have HSub := yH (sub_strL s l (by rw [hl]))
 rw [← hl]
 clear hl
 obtain ⟨n, hn2⟩ : ∃ n, n = s.size := ⟨_, rfl⟩
 go_enter Tryz.func8, Tryz.ntmps8
 go_wp2
 go_loopg [3, 4, 5] s.size (LnsI l s.size w)
 case atStart => exact ⟨0, 0, [], rfl, rfl, by omega, by omega, by simp, World.ownsRow_nil _ _ _ _, Below.refl _ _, by omega, rfl⟩
 case round =>
  obtain ⟨i, t, ds, rfl, rfl, k1, k2, hds, ho, hbel, hti, hw⟩ := hrel
  have HBel := yH hbel
  have HO := yH ho
  have HT := yH hw
  have HD := yH hds
  have hd : ds.length ≤ 2000000 := by omega
  clear hbel ho hw hds hn2
  obtain ⟨A3, c3, rfl, hc3⟩ := own_slice HO.out
  by_cases hlt : i < s.size
  ·have hltI : (i : Int) < (s.size : Int) := by omega
   have g1 := ba_get s i hlt
   have HDc := yH (drop_consL l (i := i) (by have := HLn.out; omega))
   have HTk := yH (take_snocL l (i := i) (by have := HLn.out; omega))
   rw [← HLs.out] at g1
   generalize l.getD i 0 = c at *
   by_cases hc : c = 10
   ·subst hc
    have d1 : ((((10 : UInt8).toNat : Nat) : Int) == 10) = true := by decide
    go_wp2_with (at_builtin; refine heldW ?_)
    unfold HeldW
    refine app_src rfl (.tmp 16) (.tmp 21) 27 rfl w.heap.size 9 _ 1 16 Tryz.underlying27 infoStrL rfl (by omega) _ ds.length _ rfl (own_lo8 HO.out ((Below.refl _ _).alloc (Nat.le_refl _) _)) _ 1 [Value.string (s.extract t i)] rfl (src_str _) (by simp [Value.oneCell']) (by omega) (by omega) (by have := HBel.out.size; simp; omega) ?_
    intro v2 w2 ho2 hg2 hor2
    have O2 := yH ho2
    have G2 := yH hg2
    clear ho2 hg2 hor2
    go_wp2
    have L2 := yH ((HBel.out.alloc HBel.out.size _).grown G2.out (by have := HBel.out.size; simp; omega) (fun k hk => (HO.out.lt k hk).1))
    go_roundg (gk - 1)
    case measure => omega
    case rel =>
     refine ⟨i + 1, i + 1, ds ++ [(l.take i).drop t], by go_num, by go_num, by omega, by omega, by have := HD.out; simp; omega, ?_, L2.out, by omega, ?_⟩
     ·rw [List.length_append, List.map_append, List.map_singleton]
      unfold strVL
      rw [← HSub.out]
      exact O2.out
     ·rw [HT.out, HDc.out, show (l.take (i + 1)).drop (i + 1) = [] from List.drop_eq_nil_of_le (by rw [List.length_take]; omega), linesF, if_pos rfl]
      simp
   ·have d1 : ((c.toNat : Int) == 10) = false := by
     have : c.toNat ≠ 10 := fun h => hc (by rw [← u8_back c, h]; rfl)
     simp; omega
    have HC := yH hc
    clear hc
    go_wp2
    go_roundg (gk - 1)
    case measure => omega
    case rel =>
     refine ⟨i + 1, t, ds, by go_num, rfl, by omega, by omega, by have := HD.out; omega, HO.out, HBel.out, by omega, ?_⟩
     rw [HT.out, HDc.out, linesF, if_neg HC.out, HTk.out, List.drop_append_of_le_length (by rw [List.length_take]; have := HLn.out; omega)]
  ·have hgI : ¬ (i : Int) < (s.size : Int) := by omega
   have hiN : i = s.size := by omega
   go_wp2_with (at_builtin; refine heldW ?_)
   unfold HeldW
   refine app_src rfl (.tmp 25) (.tmp 29) 27 rfl w.heap.size 9 _ 1 16 Tryz.underlying27 infoStrL rfl (by omega) _ ds.length _ rfl (own_lo8 HO.out ((Below.refl _ _).alloc (Nat.le_refl _) _)) _ 1 [Value.string (s.extract t s.size)] rfl (src_str _) (by simp [Value.oneCell']) (by omega) (by omega) (by have := HBel.out.size; simp; omega) ?_
   intro v2 w2 ho2 hg2 hor2
   have O2 := yH ho2
   have G2 := yH hg2
   clear ho2 hg2 hor2
   go_wp2
   have L2 := yH ((HBel.out.alloc HBel.out.size _).grown G2.out (by have := HBel.out.size; simp; omega) (fun k hk => (HO.out.lt k hk).1))
   go_ret
   have e : l.drop i = [] := List.drop_eq_nil_of_le (by have := HLn.out; omega)
   have e2 : l.take i = l.take s.size := by rw [hiN]
   have hfin : linesF l [] = ds ++ [(l.take s.size).drop t] := by rw [HT.out, e, e2]; rfl
   refine ⟨_, rfl, ?_, L2.out⟩
   rw [hfin, List.length_append, List.map_append, List.map_singleton]
   unfold strVL
   rw [← HSub.out]
   exact O2.out
end Go.Proofs.YtffalfacakdhkaaGreatDoor
namespace Go.Proofs.YtffalfacakdhkaaGreatDoor
open Go.RowKit
set_option linter.unusedVariables false
set_option linter.unusedSimpArgs false
def scL (ls : List (List UInt8)) : List UInt8 := ls.flatMap (fun a => a ++ [10])
theorem scL_snoc (ls : List (List UInt8)) (a : List UInt8) : scL (ls ++ [a]) = scL ls ++ a ++ [10] := by
 unfold scL
 rw [List.flatMap_append]
 simp
theorem scL_len (ls : List (List UInt8)) (m : Nat) (h : ∀ a ∈ ls, a.length ≤ m) : (scL ls).length ≤ ls.length * (m + 1) := by
 induction ls with
 | nil => simp [scL]
 | cons a r ih =>
  have h1 := ih (fun x hx => h x (List.mem_cons_of_mem _ hx))
  have h2 := h a (List.mem_cons_self ..)
  have e : scL (a :: r) = a ++ [10] ++ scL r := by unfold scL; simp
  have h3 : (r.length + 1) * (m + 1) = r.length * (m + 1) + (m + 1) := Nat.succ_mul _ _
  have h4 : (scL (a :: r)).length = a.length + 1 + (scL r).length := by rw [e, List.length_append, List.length_append]; rfl
  have h5 : (a :: r).length * (m + 1) = (r.length + 1) * (m + 1) := rfl
  rw [h4, h5, h3]
  omega
def ScI (ls : List (List UInt8)) (w : World) (m : Nat) (sv iv : Value) (wr : World) : Prop :=
 ∃ j : Nat, iv = .int .i64 (j : Int) ∧ j + m ≤ ls.length ∧ ls.length ≤ j + m ∧ sv = .string ⟨(scL (ls.take j)).toArray⟩ ∧ wr = w
set_option maxRecDepth 100000 in
set_option maxHeartbeats 1000000 in
theorem script_any (ls : List (List UInt8)) (w : World) (b c : Nat) (hl : ls.length ≤ 100) (hs : ∀ a ∈ ls, a.length ≤ 100) (hw : ∀ j (h : j < ls.length), w.cell? ⟨b, j, none⟩ = some (strVL ls[j])) :
  Calls Tryz.prog 9 #[.slice (some ⟨b, 0, none⟩) ls.length c] w fun e w' => e = .returned (.string ⟨(scL ls).toArray⟩) ∧ w' = w := by
 have HS := yH hs
 have HW := yH hw
 clear hs hw
 go_enter Tryz.func9, Tryz.ntmps9
 go_wp2
 go_loopg [3, 4] ls.length (fun m sv iv wr => ScI ls w m sv iv wr)
 case atStart => exact ⟨0, rfl, by omega, by omega, rfl, rfl⟩
 case round =>
  obtain ⟨j, rfl, k1, k2, rfl, rfl⟩ := hrel
  by_cases hj : j < ls.length
  ·have hJ : (j : Int) < (ls.length : Int) := by omega
   have hcell := HW.out j hj
   have hxl := HS.out _ (List.getElem_mem hj)
   have hal : (scL (ls.take j)).length ≤ 10100 := by
    have h1 := scL_len (ls.take j) 100 (fun a ha => HS.out a (List.mem_of_mem_take ha))
    have h2 : (ls.take j).length ≤ 100 := by rw [List.length_take]; omega
    have h3 : (ls.take j).length * (100 + 1) ≤ 100 * (100 + 1) := Nat.mul_le_mul_right _ h2
    omega
   have HN := yH (show scL (ls.take (j + 1)) = scL (ls.take j) ++ ls[j] ++ [10] by rw [List.take_succ_eq_append_getElem hj, scL_snoc])
   unfold strVL at hcell
   generalize ls[j] = x at *
   obtain ⟨A, hA⟩ : ∃ A, A = scL (ls.take j) := ⟨_, rfl⟩
   rw [← hA] at hal
   rw [← hA]
   rw [← hA] at HN
   have s1 : (⟨A.toArray⟩ : ByteArray).size = A.length := by show A.toArray.size = _; simp
   have s2 : (⟨x.toArray⟩ : ByteArray).size = x.length := by show x.toArray.size = _; simp
   have s3 : ¬ 9223372036854775807 < (⟨A.toArray⟩ : ByteArray).size + (⟨x.toArray⟩ : ByteArray).size := by omega
   have s4 : ¬ 9223372036854775807 < (⟨A.toArray⟩ : ByteArray).size + (⟨x.toArray⟩ : ByteArray).size + 1 := by omega
   have HE := yH (show (⟨A.toArray⟩ : ByteArray) ++ ⟨x.toArray⟩ ++ ⟨#[10]⟩ = ⟨(scL (ls.take (j + 1))).toArray⟩ by
    rw [HN.out, show (⟨#[10]⟩ : ByteArray) = ⟨[10].toArray⟩ from rfl, cat_list, cat_list])
   clear hA
   generalize (⟨A.toArray⟩ : ByteArray) = sa at *
   generalize (⟨x.toArray⟩ : ByteArray) = sx at *
   go_wp2
   go_roundg (gk - 1)
   case measure => omega
   case rel =>
    refine ⟨j + 1, by go_num, by omega, by omega, ?_, rfl⟩
    rw [← HE.out]
  ·have hJ : ¬ (j : Int) < (ls.length : Int) := by omega
   obtain rfl : j = ls.length := by omega
   go_wp2
   go_ret
   exact ⟨rfl, rfl⟩
end Go.Proofs.YtffalfacakdhkaaGreatDoor
namespace Go.Proofs.YtffalfacakdhkaaGreatDoor
open Go.RowKit
set_option linter.unusedVariables false
set_option linter.unusedSimpArgs false
def awL9 : List (List UInt8) := awLs.take 9
theorem awL9_sc : scL awL9 = joinN awLs := by kernel_rfl
def awT : List (List UInt8) := [[111, 107], [111, 107], [111, 107, 32, 115, 110, 97, 112, 32, 49], [111, 107, 32, 115, 110, 97, 112, 32, 50], [111, 107], [101, 114, 114, 111, 114, 32, 49, 51], [111, 107], [111, 107, 32, 115, 116, 97, 116, 32, 54, 52, 32, 52, 32, 51, 50, 32, 49, 32, 56, 32, 48, 32, 48, 32, 52, 32, 48, 32, 50], [119, 114, 111, 110, 103, 32, 51, 49, 48, 32, 57], []]
theorem awT_is : linesF (outOf awOs 10) [] = awT := by kernel_rfl
theorem ba_toList (l : List UInt8) : (⟨l.toArray⟩ : ByteArray).toList = l := by
 rw [ba_list]
set_option maxRecDepth 100000 in
set_option maxHeartbeats 1000000 in
theorem awake32 {w : World} (ht : LnT w) : Calls Tryz.prog 5 #[] w fun e w' => e = .returned (.bool true) ∧ Below w.heap.size w w' := by
 have HT := yH ht
 clear ht
 go_enter Tryz.func5, Tryz.ntmps5
 go_wp2_with fail
 show Calls Tryz.prog 9 #[.slice (some ⟨w.heap.size, 0, none⟩) 9 9] (w.alloc (Obj.cells (awL9.map strVL).toArray 9)) _
 have HW := yH (Blk.made w 9 (awL9.map strVL).toArray)
 have L1 := yH ((Below.refl w.heap.size w).alloc (Nat.le_refl _) (Obj.cells (awL9.map strVL).toArray 9))
 generalize w.alloc (Obj.cells (awL9.map strVL).toArray 9) = w1 at *
 refine (script_any awL9 w1 w.heap.size 9 (by decide) (by decide) (fun j hj => HW.out.cell (by rw [List.getElem?_toArray, List.getElem?_map, List.getElem?_eq_getElem hj]; rfl))).mono ?_
 rintro e w2 ⟨rfl, rfl⟩
 rw [awL9_sc]
 go_wp2_with (go_at_call 6; refine (aw_run (HT.out.below L1.out)).mono ?_; rintro e w3 ⟨rfl, hb⟩; have L3 := yH (below_chain L1.out hb); clear hb)
 have HLn := yH (rlines_any ⟨(outOf awOs 10).toArray⟩ w3 (by rw [ba_len]; decide))
 rw [show (⟨(outOf awOs 10).toArray⟩ : ByteArray).data.toList = outOf awOs 10 from List.toList_toArray, awT_is] at HLn
 generalize (⟨(outOf awOs 10).toArray⟩ : ByteArray) = so at *
 go_upto_region 3 with (go_at_call 8; refine HLn.out.mono ?_; rintro e w4 ⟨v, rfl, ho, hb⟩; have O4 := yH ho; have L4 := yH (below_chain L3.out hb); clear ho hb)
 obtain ⟨g, cap, rfl, _⟩ := O4.out.form (by decide)
 have hj : ∀ j (h : j < 10), ∃ sj : ByteArray, w4.cell? ⟨g, j, none⟩ = some (.string sj) ∧ sj.toList = awT.getD j [] := fun j h => by
  have h1 := O4.out.cells (g := g) rfl j (strVL (awT.getD j [])) (by
   rw [List.getElem?_map, List.getD_eq_getElem?_getD, List.getElem?_eq_getElem (show j < awT.length from h)]
   rfl)
  rw [Addr.add_mid, Nat.zero_add] at h1
  exact ⟨_, h1, ba_toList _⟩
 obtain ⟨s0, c0, t0⟩ := hj 0 (by omega)
 have e0 : (s0.toList == ([111, 107] : List UInt8)) = true := by rw [t0]; rfl
 clear t0
 obtain ⟨s1, c1, t1⟩ := hj 1 (by omega)
 have e1 : (s1.toList == ([111, 107] : List UInt8)) = true := by rw [t1]; rfl
 clear t1
 obtain ⟨s2, c2, t2⟩ := hj 2 (by omega)
 have e2 : (s2.toList == ([111, 107, 32, 115, 110, 97, 112, 32, 49] : List UInt8)) = true := by rw [t2]; rfl
 clear t2
 obtain ⟨s3, c3, t3⟩ := hj 3 (by omega)
 have e3 : (s3.toList == ([111, 107, 32, 115, 110, 97, 112, 32, 50] : List UInt8)) = true := by rw [t3]; rfl
 clear t3
 obtain ⟨s4, c4, t4⟩ := hj 4 (by omega)
 have e4 : (s4.toList == ([111, 107] : List UInt8)) = true := by rw [t4]; rfl
 clear t4
 obtain ⟨s5, c5, t5⟩ := hj 5 (by omega)
 have e5 : (s5.toList == ([101, 114, 114, 111, 114, 32, 49, 51] : List UInt8)) = true := by rw [t5]; rfl
 clear t5
 obtain ⟨s6, c6, t6⟩ := hj 6 (by omega)
 have e6 : (s6.toList == ([111, 107] : List UInt8)) = true := by rw [t6]; rfl
 clear t6
 obtain ⟨s7, c7, t7⟩ := hj 7 (by omega)
 have e7 : (s7.toList == ([111, 107, 32, 115, 116, 97, 116, 32, 54, 52, 32, 52, 32, 51, 50, 32, 49, 32, 56, 32, 48, 32, 48, 32, 52, 32, 48, 32, 50] : List UInt8)) = true := by rw [t7]; rfl
 clear t7
 obtain ⟨s8, c8, t8⟩ := hj 8 (by omega)
 have e8 : (s8.toList == ([119, 114, 111, 110, 103, 32, 51, 49, 48, 32, 57] : List UInt8)) = true := by rw [t8]; rfl
 clear t8
 clear O4 hj
 go_wp2
 go_ret
 exact ⟨rfl, L4.out⟩
set_option maxRecDepth 100000 in
set_option maxHeartbeats 1000000 in
theorem desk_numbers {w : World} (ht : LnT w) : Calls Tryz.prog 3 #[] w fun e w' => e = .returned (.bool true) ∧ Below w.heap.size w w' := by
 have HT := yH ht
 clear ht
 go_enter Tryz.func3, Tryz.ntmps3
 go_wp2_with (first
  | (go_at_call 5; refine (awake32 HT.out).mono ?_; rintro e w1 ⟨rfl, hb⟩; have L1 := yH hb; clear hb)
  | (go_at_call 6; refine (nm_run (HT.out.below L1.out)).mono ?_; rintro e w2 ⟨rfl, hb⟩; have L2 := yH (below_chain L1.out hb); clear hb))
 go_ret
 exact ⟨by kernel_rfl, L2.out⟩
end Go.Proofs.YtffalfacakdhkaaGreatDoor
namespace Go.Proofs.YtffalfacakdhkaaGreatDoor
open Go.RowKit Go.Maps Go.Shelf
set_option linter.unusedVariables false
set_option linter.unusedSimpArgs false
attribute [local go_sem] Oper.semAt_some run_store_fnL
set_option maxRecDepth 100000 in
set_option maxHeartbeats 2000000 in
theorem run_long {w : World} (ht : LnT w) (s : ByteArray) (hs : 1048576 < s.size ∧ s.size ≤ 10000000) :
  Calls Tryz.prog 6 #[.string s] w fun e w' => e = .returned (.string ⟨(wrongL 3 0).toArray⟩) ∧ Below w.heap.size w w' := by
 have HT := yH ht
 have hsi : (1048576 : Int) < (s.size : Int) := by omega
 clear ht hs
 go_enter Tryz.func6, Tryz.ntmps6
 go_wp2_with fail
 obtain ⟨w1, hw1⟩ : ∃ v, v = ((w.alloc (Obj.cells #[Value.pointer none, Value.slice none 0 0, Value.pointer none, Value.pointer none, Value.int IntKind.i64 0] 37)).alloc (Obj.cells #[Value.pointer (some ⟨w.heap.size, 0, none⟩)] 30)).alloc (Obj.cells #[Value.func (Fn.func 10) #[] #[Value.pointer (some ⟨w.heap.size + 1, 0, none⟩)]] 44) := ⟨_, rfl⟩
 have R1 := rn_made w w1 hw1 (fun _ _ _ _ => True) (fun _ => trivial)
 rw [← hw1]
 clear hw1
 obtain ⟨v, p, dp, xp, hD, _⟩ := R1.ex
 have hL : (wrongL 3 ((0 : Nat) : Int)).length ≤ 1000 := by
  have h := wr_3_0
  rw [show ((0 : Nat) : Int) = 0 from rfl, h]
  decide
 refine (dsk_wrong EnvOk.none HT.out hD trivial (by simp) R1.k3 3 (by unfold i64b; omega) (by unfold i64b; omega) hL).mono ?_
 rintro e w2 ⟨rfl, v2, p2, hD2, _, hK⟩
 have HS := yH (dsk_string hD2 (by rw [List.nil_append]; omega))
 have HL := yH hD2.low
 have d3 := (show Boxed w2 _ _ _ from hK.blk _ _ _ R1.k3 (by decide)).cell
 clear hK hD2 hD R1 hL
 go_wp2_with (go_at_call 13; refine HS.out.mono ?_; rintro e w3 ⟨rfl, hb, _⟩; have L3 := yH (HL.out.trans hb); clear hb)
 go_ret
 exact ⟨rfl, L3.out⟩
theorem run_empty {w : World} (ht : LnT w) (m : Nat) (hm : m ≤ 1048576) : Calls Tryz.prog 6 #[.string ⟨(List.replicate m (10 : UInt8)).toArray⟩] w fun e w' => e = .returned (.string ⟨([] : List UInt8).toArray⟩) ∧ Below w.heap.size w w' := by
 have ho : ∀ k, outOf (List.replicate (m + 1) []) k = [] := fun k => by
  unfold outOf cat
  rw [List.take_replicate, List.flatMap_eq_nil_iff]
  intro x hx
  rw [(List.mem_replicate.1 hx).2]
  rfl
 have hg : ∀ k, (List.replicate (m + 1) ([] : List UInt8)).getD k [] = [] := fun k => by
  rw [List.getD_eq_getElem?_getD, List.getElem?_replicate]
  split <;> rfl
 have hr := run_any ht (List.replicate m 10) (by simp; omega) (List.replicate (m + 1) []) (List.replicate (m + 1) []) (joinN_rep m) (by simp) (by simp; omega) (fun a ha => by rw [(List.mem_replicate.1 ha).2]; simp) (fun k => joinN_drop _ 2000000 (by simp; omega) k) (by simp) (fun k => by rw [ho]; simp) (fun k _ => by rw [hg]; simp)
  (fun _ _ _ _ _ => True) (fun _ _ _ => EnvOk.none) (fun _ => trivial) (fun k _ _ => ⟨hg k, fun _ _ _ _ _ => trivial⟩) (fun k _ hk => absurd (hg k) hk)
 rw [ho] at hr
 exact hr
end Go.Proofs.YtffalfacakdhkaaGreatDoor
namespace Go.Proofs.YtffalfacakdhkaaGreatDoor
open Go.RowKit Go.Shelf
set_option linter.unusedVariables false
set_option linter.unusedSimpArgs false
/-- A row of bytes is made. -/
theorem wpl_mkL {w : World} {ops : Array Oper} {rest : List Oper} {o : Oper} {a : Act} {Q : Exit → Act → World → Prop} (hg : o.guard = none) (l c : Operand) (hop : o.op = Op.makeSlice 25 l c) (m : Nat) (hl : a.eval l = .int .i64 (m : Int)) (hc : a.eval c = .int .i64 (m : Int)) (hm : m ≤ 10000000)
  (hK : ∀ w', Blk w' w.heap.size 5 (List.replicate m (Value.int .u8 0)).toArray → w.grownBy w' none → w'.heap.size = w.heap.size + 1 → wpList Tryz.prog ops Q rest (a.put o.dst (.slice (some ⟨w.heap.size, 0, none⟩) m m)) w') :
  wpList Tryz.prog ops Q (o :: rest) a w := by
 obtain ⟨i0, hi, hz0, hz1, hz2⟩ := info_parts infoByte
 have hr := run_make (P := Tryz.prog) w 25 5 i0 _ Tryz.underlying25 hi hz0 .i64 .i64 (m : Int) (m : Int) (by omega) (by omega) (by rw [hz2]; omega) (by omega)
 simp only [Int.toNat_natCast, hz1, Nat.mul_one] at hr
 have e : madeCells (Value.int .u8 0).cells m = (List.replicate m (Value.int .u8 0)).toArray := by
  apply Array.ext'
  exact toList_madeCells_one _ _
 rw [e] at hr
 refine wpList_plain hg fun K' hK' => ?_
 unfold Oper.wp execOp
 simp only [hop, hl, hc, hr, Sem.run_bind, Sem.run_pure, Result.andThen_ok]
 exact hK' _ _ (hK _ (Blk.made _ _ _) (World.grownBy_alloc w _ none) (by simp))
def tens (i k : Nat) : List Value := List.replicate i (Value.int .u8 10) ++ List.replicate k (Value.int .u8 0)
theorem tens_len (i k : Nat) : (tens i k).length = i + k := by unfold tens; simp
theorem tens_set (i k : Nat) : (tens i (k + 1)).set i (Value.int .u8 10) = tens (i + 1) k := by
 unfold tens
 rw [List.set_append_right _ _ (by simp), List.length_replicate, Nat.sub_self, List.replicate_succ, List.set_cons_zero, List.replicate_succ', List.append_assoc]
 rfl
theorem info_u8z : (Tryz.prog.info? 5).map (·.size) = some 1 := by kernel_rfl
structure LgI (w : World) (g n m : Nat) (i : Nat) (wr : World) : Prop where
 lo : i + m ≤ n
 hi : n ≤ i + m
 blk : Blk wr g 5 (tens i m).toArray
 low : Below w.heap.size w wr
set_option maxRecDepth 100000 in
set_option maxHeartbeats 1000000 in
theorem desk_long {w : World} (ht : LnT w) (x : Int) (hx : -9223372036854775808 ≤ x ∧ x ≤ 9223372036854775807) : Calls Tryz.prog 4 #[.int .i64 x] w fun e w' => e = .returned (.bool true) ∧ Below w.heap.size w w' := by
 have HT := yH ht
 obtain ⟨m, hm, hm2⟩ : ∃ m : Nat, pickI x 3 = (m : Int) ∧ m ≤ 2 := by
  have h : pickI x 3 = x % 3 := by unfold pickI; rw [if_neg (by omega)]
  exact ⟨(x % 3).toNat, by rw [h]; omega, by omega⟩
 have HP := yH (fun w => pick_any x 3 w hx (by omega))
 rw [hm] at HP
 clear ht hm
 go_enter Tryz.func4, Tryz.ntmps4
 go_upto_region 4 with (first
  | (go_at_call 5; refine (awake32 HT.out).mono ?_; rintro e w1 ⟨rfl, hb⟩; have L1 := yH hb; clear hb)
  | (go_at_call 7; refine (HP.out w1).mono ?_; rintro e w2 ⟨rfl, rfl⟩))
 obtain ⟨n, hn, hn1, hn2⟩ : ∃ n : Nat, (1048575 + (m : Int)) = (n : Int) ∧ 1048575 ≤ n ∧ n ≤ 1048577 := ⟨1048575 + m, by omega, by omega, by omega⟩
 rw [hn]
 have HN := yH (And.intro hn1 hn2)
 clear hn hn1 hn2 hm2 HP hx
 go_wp2_with (refine wpl_mkL rfl (.tmp 12) (.tmp 12) rfl n (by rfl) (by rfl) (by have := HN.out; omega) ?_; intro w2 hb hg hz; have B2 := yH (show Blk w2 w1.heap.size 5 (tens 0 n).toArray from hb); have L2 := yH (bl_n L1.out hg); clear hb hg hz; simp only [Act.put, yA, yB, yC])
 go_loopg [5] n (fun k iv wr => ∃ i : Nat, iv = .int .i64 (i : Int) ∧ LgI w w1.heap.size n k i wr)
 case atStart => exact ⟨0, rfl, by omega, by omega, B2.out, L2.out⟩
 case round =>
  obtain ⟨i, rfl, hL⟩ := hrel
  have h1 := hL.lo
  have h2 := hL.hi
  have HB := yH hL.blk
  have HLw := yH hL.low
  clear hL B2 L2
  by_cases hi : i < n
  ·have hiI : (i : Int) < (n : Int) := by omega
   have hib : (i : Int) ≤ 2000000 := by have := HN.out; omega
   have HSz := yH (show i < (tens i gk).toArray.size by rw [List.size_toArray, tens_len]; omega)
   go_wp2_with (refine wpl_setD rfl 5 (.tmp 21) (.const (.int .u8 10)) (by rfl) w1.heap.size i (.int .u8 10) (by go_num) (by rfl) _ _ HB.out info_u8z HSz.out (by rfl) (by rfl) ?_; intro w3 hb hg hz; have B3 := yH hb; have L3 := yH (bl_g HLw.out hg L1.out.size); clear hb hg hz; simp only [Act.put, yA, yB, yC])
   go_roundg (gk - 1)
   case measure => omega
   case rel =>
    refine ⟨i + 1, by go_num, by omega, by omega, ?_, L3.out⟩
    have hb := B3.out
    rw [List.setIfInBounds_toArray, show gk = (gk - 1) + 1 by omega, tens_set] at hb
    exact hb
  ·have hiI : ¬ (i : Int) < (n : Int) := by omega
   obtain rfl : i = n := by omega
   have hgk : gk = 0 := by omega
   have hb := HB.out
   rw [hgk] at hb
   have hO : wr.ownsRow w1.heap.size 5 1 (.slice (some ⟨w1.heap.size, 0, none⟩) i i) i (u8s (List.replicate i (10 : UInt8))) := by
    have e : u8s (List.replicate i (10 : UInt8)) = tens i 0 := by unfold u8s tens; simp
    rw [e]
    have hl : (tens i 0).length = i := by rw [tens_len]; rfl
    exact ⟨by omega, .inr ⟨_, i, (tens i 0).toArray, rfl, Nat.le_refl _, hb, Nat.le_refl _, by have := HN.out; unfold maxLen; omega, by rw [List.size_toArray]; omega, by rw [List.toList_toArray, List.take_of_length_le (by omega)]⟩⟩
   have HCv := yH (conv_own hO)
   clear hb hO HB
   go_wp2_with fail
   rw [HCv.out]
   simp only [Result.andThen]
   rw [Oper.upon_value]
   have HR := yH (HT.out.below HLw.out)
   by_cases hc : i ≤ 1048576
   ·have hcI : ¬ (1048576 : Int) < (i : Int) := by omega
    go_wp2_with (go_at_call 6; refine (run_empty HR.out i hc).mono ?_; rintro e w5 ⟨rfl, hb5⟩; have L5 := yH (below_chain HLw.out hb5); clear hb5)
    go_ret
    exact ⟨rfl, L5.out⟩
   ·have hcI : (1048576 : Int) < (i : Int) := by omega
    go_wp2_with (go_at_call 6; refine (run_long HR.out ⟨(List.replicate i (10 : UInt8)).toArray⟩ (by rw [ba_len, List.length_replicate]; have := HN.out; omega)).mono ?_; rintro e w5 ⟨rfl, hb5⟩; have L5 := yH (below_chain HLw.out hb5); clear hb5)
    go_ret
    exact ⟨by kernel_rfl, L5.out⟩
end Go.Proofs.YtffalfacakdhkaaGreatDoor
