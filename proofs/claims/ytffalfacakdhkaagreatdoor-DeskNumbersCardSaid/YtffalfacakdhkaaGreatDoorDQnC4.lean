/-
  what this claim needs of: QnC4, QnB1, QnB2, QnB3 (written by cut.py).
-/
import Derived.Test.YtffalfacakdhkaaGreatDoorDQnC2
import Derived.RangeFuncNested
import Derived.RangeFuncBound
import Derived.RangeFuncCalls
import Derived.RangeFuncLeaves
import Derived.Shelf.Abstract
import Derived.Shelf.RegionOpen
import Derived.WalkKit
import Derived.OwnWalkIn
import Derived.TacticsInMore
import Derived.LoopNIn
import Derived.LoopIn
namespace Go.Proofs.YtffalfacakdhkaaGreatDoor
open Go.RowKit Go.Maps
set_option linter.unusedVariables false
set_option linter.unusedSimpArgs false
section
variable {w w' : World} {c kb d sb ob n : Nat} {K : KM} {S O : SM} {sk : Int → Prop}
theorem latD_put (S O : SM) (i : Int) (x : Sec) (j : Int) : latD S (aput O i x) j = if i = j then x else latD S O j := by
 unfold latD
 rw [aget_put]
 by_cases h : i = j
 ·rw [if_pos h, if_pos h]
  rfl
 ·rw [if_neg h, if_neg h]
theorem bsrc_mapD {A : Option Addr} {m : Nat} {ys : List Value} {b : Nat} {S : SM} (hs : BSrc w A m ys) (h : MapIs Tryz.prog 3 kD lD vSec w b S) (hT : Tch [b] w w') : BSrc w' A m ys :=
 hs.tch hT (fun b cs hb => by have := blk_ne_mapD h hb; simpa using this)
theorem CcW.wrote {i : Int} {x : Sec} (h : CcW w c kb d sb ob n K S O (fun _ => False)) (hD : DkIs w' d sb ob n S (aput O i x)) (hT : Tch [ob] w w') : CcW w' c kb d sb ob n K S (aput O i x) (fun k => k = i) := by
 obtain ⟨now, hi, mi, hb⟩ := h.blk
 refine ⟨⟨now, hi, mi, hb.tch hT (by have := blk_ne_mapD h.dk.opn hb; simpa using this)⟩, h.map.tch hT (by have := h.nes.2; simpa using this), hD, fun p hp => ⟨bsrc_mapD (h.rows p hp).1 h.dk.opn hT, ?_⟩, h.nes⟩
 by_cases e : i = p.1
 ·exact .inl e.symm
 ·rw [latD_put, if_neg e]
  exact .inr ((h.rows p hp).2.resolve_left (fun h => h))
def WrCQ (w : World) (c kb d sb ob n : Nat) (K : KM) (S O : SM) (i : Int) (x : Sec) (e : Ending) (w' : World) : Prop := ∃ K', e = .returned (.int .i64 0) ∧ CcW w' c kb d sb ob n K' S (aput O i x) (fun _ => False) ∧ K'.length ≤ K.length + 1 ∧ Tch [c, kb, ob] w w' ∧ ∀ g, g < w.heap.size → Avoid K g → Avoid K' g
set_option maxRecDepth 100000 in
theorem cc_write (h : CcW w c kb d sb ob n K S O (fun _ => False)) (i : Nat) (hi : i < n) {A : Option Addr} {cap : Nat} {x : Sec} (hs : BSrc w A 512 (secL x)) (hK : K.length ≤ 1000000) (hO : O.length ≤ 1000000) :
  Calls Tryz.prog 140 #[.pointer (some ⟨c, 0, none⟩), .int .i64 (i : Int), .slice A 512 cap] w (WrCQ w c kb d sb ob n K S O i x) := by
 have H := yH h
 have HI := yH (show i < n ∧ -9223372036854775808 ≤ (i : Int) ∧ (i : Int) ≤ 9223372036854775807 from ⟨hi, by have := h.dk.rng; omega⟩)
 have HS := yH hs
 have HK := yH hK
 have HO := yH hO
 have c0 := h.c0
 clear h hi hs hK hO
 go_enter Tryz.func140, Tryz.ntmps140
 go_wp2_with (first
  | (go_at_call 205; refine (cc_keep C1.out HI.out.2 S1.out HK.out).mono ?_; rintro e w5 ⟨K', rfl, hC, hl, hT, hA⟩; have C5 := yH hC; have HL5 := yH hl; have T5 := yH ((T1.out.mono (T' := [c, kb, ob]) (by simp)).trans (hT.mono (fun k hk => by simp at hk; simp; omega))); have A5 := yH hA; clear hC hl hT hA)
  | (go_at_call 204; refine (dk_write H.out.dk i HI.out.1 HS.out HO.out).mono ?_; rintro e w1 ⟨rfl, hD, hT⟩; have T1 := yH hT; have S1 := yH (show BSrc w1 A 512 (secL (latD S (aput O (i : Int) x) i)) by rw [latD_put, if_pos rfl]; exact bsrc_mapD HS.out H.out.dk.opn hT); have C1 := yH (show CcW w1 c kb d sb ob n K S (aput O (i : Int) x) (fun k => k = (i : Int)) from H.out.wrote hD hT); clear hD hT)
  | (go_at_call 142; refine (cc_known H.out).mono ?_; rintro e w1 ⟨rfl, rfl⟩))
 go_ret
 exact ⟨K', rfl, C5.out, HL5.out, T5.out, fun g h1 h2 => A5.out g (Nat.lt_of_lt_of_le h1 T1.out.size) h2⟩
def SyC (w : World) (c kb d sb ob n : Nat) (K : KM) (S O : SM) (e : Ending) (w' : World) : Prop := ∃ S', e = .returned (.int .i64 0) ∧ CcW w' c kb d sb ob n K S' [] (fun _ => False) ∧ (∀ i, latD S' [] i = latD S O i) ∧ S'.length ≤ S.length + O.length ∧ Tch [sb, ob] w w'
theorem CcW.synced {S' : SM} (h : CcW w c kb d sb ob n K S O (fun _ => False)) (hD : DkIs w' d sb ob n S' []) (hl : ∀ i, latD S' [] i = latD S O i) (hT : Tch [sb, ob] w w') : CcW w' c kb d sb ob n K S' [] (fun _ => False) := by
 obtain ⟨now, hi, mi, hb⟩ := h.blk
 refine ⟨⟨now, hi, mi, hb.tch hT (by have h1 := blk_ne_mapD h.dk.opn hb; have h2 := blk_ne_mapD h.dk.safe hb; simp; exact ⟨h2, h1⟩)⟩, h.map.tch hT (by have := h.nes; simp; exact this), hD, fun p hp => ⟨(h.rows p hp).1.tch hT (fun b cs hk => by have h1 := blk_ne_mapD h.dk.opn hk; have h2 := blk_ne_mapD h.dk.safe hk; simp; exact ⟨h2, h1⟩), ?_⟩, h.nes⟩
 rw [hl]
 exact (h.rows p hp).2
set_option maxRecDepth 100000 in
theorem cc_sync (h : CcW w c kb d sb ob n K S O (fun _ => False)) (hO : S.length + O.length ≤ 1000000) :
  Calls Tryz.prog 79 #[.pointer (some ⟨c, 0, none⟩)] w (SyC w c kb d sb ob n K S O) := by
 have H := yH h
 have HO := yH hO
 have c0 := h.c0
 clear h hO
 go_enter Tryz.func79, Tryz.ntmps79
 go_wp2_with (first
  | (go_at_call 143; refine (dk_sync H.out.dk HO.out).mono ?_; rintro e w1 ⟨S', rfl, hD, hl, hn, hT⟩; have C1 := yH (H.out.synced hD hl hT); have L1 := yH hl; have N1 := yH hn; have T1 := yH hT; clear hD hl hn hT)
  | (go_at_call 142; refine (cc_known H.out).mono ?_; rintro e w1 ⟨rfl, rfl⟩))
 go_ret
 exact ⟨S', rfl, C1.out, L1.out, N1.out, T1.out⟩
theorem built_dk (n : Int) (a b : Nat) : Tryz.prog.built 113 [(0, .int .i64 n), (1, .map (some a)), (2, .map (some b))] = some #[.int .i64 n, .map (some a), .map (some b), .int .i64 0, .bool false] := by kernel_rfl
theorem built_cc (d kb : Nat) (m : Int) : Tryz.prog.built 206 [(0, .pointer (some ⟨d, 0, none⟩)), (1, .int .i64 m), (3, .map (some kb))] = some #[.pointer (some ⟨d, 0, none⟩), .int .i64 m, .int .i64 0, .map (some kb), .int .i64 0, .int .i64 0] := by kernel_rfl
def DkNew (n : Nat) (w : World) (e : Ending) (w' : World) : Prop := ∃ d sb ob, e = .returned (.pointer (some ⟨d, 0, none⟩)) ∧ DkIs w' d sb ob n [] [] ∧ Below w.heap.size w w' ∧ w.heap.size ≤ d ∧ w.heap.size ≤ sb ∧ w.heap.size ≤ ob
set_option maxRecDepth 100000 in
theorem dk_new (n : Nat) (hn : 1 ≤ n ∧ n ≤ 262144) (w : World) : Calls Tryz.prog 34 #[.int .i64 (n : Int)] w (DkNew n w) := by
 have hmm := @run_makeMap Tryz.prog
 have hb := built_dk (n : Int) w.heap.size (w.heap.size + 1)
 have HN := yH hn
 have e1 : ¬ (n : Int) < 1 := by omega
 have e2 : ¬ (262144 : Int) < (n : Int) := by omega
 clear hn
 go_enter Tryz.func34, Tryz.ntmps34
 go_wp2_with (refine wpl_box rfl 113 (.tmp 12) (by rfl) _ (by rfl) ?_; intro w1 hk hg hz; have K := yH hk; have G := yH hg; clear hk hg hz; simp only [Act.put, yA, yB, yC])
 go_ret
 have hs1 : (w.alloc (Obj.map #[] 0)).heap.size = w.heap.size + 1 := by simp
 have hs2 : ((w.alloc (Obj.map #[] 0)).alloc (Obj.map #[] 0)).heap.size = w.heap.size + 2 := by simp
 have hm1 : MapIs Tryz.prog 3 kD lD vSec (w.alloc (Obj.map #[] 0)) w.heap.size ([] : SM) := MapIs.made w _ _ _ _ _
 have hm2 : MapIs Tryz.prog 3 kD lD vSec ((w.alloc (Obj.map #[] 0)).alloc (Obj.map #[] 0)) (w.heap.size + 1) ([] : SM) := by
  have := MapIs.made (w.alloc (Obj.map #[] 0)) Tryz.prog 3 kD lD vSec
  rw [hs1] at this
  exact this
 have hm3 := (hm1.kept (World.grownBy_alloc (w.alloc (Obj.map #[] 0)) (Obj.map #[] 0) none) (by simp)).kept G.out (by simp)
 have hk := K.out
 rw [hs2] at hk
 refine ⟨w.heap.size + 2, w.heap.size, w.heap.size + 1, by rw [← hs2]; rfl, ⟨hk, hm3, hm2.kept G.out (by simp), by omega, HN.out⟩, bl_n (((Below.refl _ _).alloc (Nat.le_refl _) _).alloc (by rw [hs1]; omega) _) G.out, by omega, by omega, by omega⟩
def CcNew (w : World) (d sb ob n : Nat) (S O : SM) (e : Ending) (w' : World) : Prop := ∃ c kb, e = .returned (.pointer (some ⟨c, 0, none⟩)) ∧ CcW w' c kb d sb ob n [] S O (fun _ => False) ∧ Below w.heap.size w w' ∧ w.heap.size ≤ c ∧ w.heap.size ≤ kb
set_option maxRecDepth 100000 in
theorem cc_new (h : DkIs w d sb ob n S O) : Calls Tryz.prog 76 #[.pointer (some ⟨d, 0, none⟩), .int .i64 64] w (CcNew w d sb ob n S O) := by
 have hmm := @run_makeMap Tryz.prog
 have hb := built_cc d w.heap.size 64
 have H := yH h
 have e1 : ((n : Int) == 0) = false := beq_eq_false_iff_ne.2 (by have := h.rng; omega)
 have e2 : ¬ (n : Int) = 0 := by have := h.rng; omega
 clear h
 go_enter Tryz.func76, Tryz.ntmps76
 go_wp2_with (first
  | (go_at_call 73; refine (dk_sectors H.out).mono ?_; rintro e w1 ⟨rfl, rfl⟩)
  | (refine wpl_box rfl 206 (.tmp 15) (by rfl) _ (by rfl) ?_; intro w1 hk hg hz; have K := yH hk; have G := yH hg; clear hk hg hz; simp only [Act.put, yA, yB, yC]))
 go_ret
 have hs1 : (w.alloc (Obj.map #[] 0)).heap.size = w.heap.size + 1 := by simp
 have hm1 : MapIs Tryz.prog 3 kD lD veK (w.alloc (Obj.map #[] 0)) w.heap.size ([] : KM) := MapIs.made w _ _ _ _ _
 have hk := K.out
 rw [hs1] at hk
 have hb1 : Below w.heap.size w w1 := bl_n ((Below.refl _ _).alloc (Nat.le_refl _) _) G.out
 refine ⟨w.heap.size + 1, w.heap.size, by rw [← hs1]; rfl, ⟨⟨0, 0, 0, hk⟩, hm1.kept G.out (by simp), H.out.below hb1, (by intro p hp; cases hp), by have := H.out.safe.lt; have := H.out.opn.lt; omega⟩, hb1, by omega, by omega⟩
/-- A cache over a disk of n sectors whose latest bytes are L; N: how many entries there may be. -/
structure GMk where
 G : Nat → Prop
variable [gm : Inhabited GMk]
/-- The marked blocks: they hold none of a cache's rows. -/
def gmG : Nat → Prop := (default : GMk).G
def CcI (w : World) (c kb d sb ob n : Nat) (L : Int → Sec) (N : Nat) : Prop := ∃ K S O, CcW w c kb d sb ob n K S O (fun _ => False) ∧ (∀ i, latD S O i = L i) ∧ K.length ≤ N ∧ S.length + O.length ≤ N ∧ ∀ g, gmG g → g < w.heap.size ∧ Avoid K g
def setL (L : Int → Sec) (i : Int) (x : Sec) (j : Int) : Sec := if i = j then x else L j
variable {L : Int → Sec} {N : Nat}
theorem CcI.below (h : CcI w c kb d sb ob n L N) (hb : Below w.heap.size w w') : CcI w' c kb d sb ob n L N := by
 obtain ⟨K, S, O, h1, h2, h3, h4, h5⟩ := h
 exact ⟨K, S, O, h1.below hb, h2, h3, h4, fun g hg => ⟨Nat.lt_of_lt_of_le (h5 g hg).1 hb.size, (h5 g hg).2⟩⟩
theorem CcI.rng (h : CcI w c kb d sb ob n L N) : 1 ≤ n ∧ n ≤ 262144 := by
 obtain ⟨K, S, O, h1, h2⟩ := h
 exact h1.dk.rng
theorem CcI.lts (h : CcI w c kb d sb ob n L N) : c < w.heap.size ∧ kb < w.heap.size ∧ d < w.heap.size ∧ sb < w.heap.size ∧ ob < w.heap.size := by
 obtain ⟨K, S, O, h1, h2⟩ := h
 obtain ⟨now, hi, mi, hb⟩ := h1.blk
 exact ⟨hb.lt, h1.map.lt, h1.dk.blk.lt, h1.dk.safe.lt, h1.dk.opn.lt⟩
/-- Bytes in a row of bytes stay where a cache and its disk turn. -/
theorem CcI.bsrc {A : Option Addr} {m : Nat} {ys : List Value} (h : CcI w c kb d sb ob n L N) (hs : BSrc w A m ys) (hT : Tch [c, kb, sb, ob] w w') : BSrc w' A m ys := by
 obtain ⟨K, S, O, h1, h2⟩ := h
 obtain ⟨now, hi, mi, hb⟩ := h1.blk
 refine hs.tch hT (fun b cs hk hm => ?_)
 simp only [List.mem_cons, List.not_mem_nil, or_false] at hm
 rcases hm with rfl | rfl | rfl | rfl
 ·exact blk_ne_tyD hk hb (by decide) rfl
 ·exact blk_ne_mapD h1.map hk rfl
 ·exact blk_ne_mapD h1.dk.safe hk rfl
 ·exact blk_ne_mapD h1.dk.opn hk rfl
theorem CcI.noBlk {b : Nat} {t : TypeId} {cs : Array Value} (h : CcI w c kb d sb ob n L N) (hk : Blk w b t cs) (ht : t ≠ 206) : b ∉ [c, kb, sb, ob] := by
 obtain ⟨K, S, O, h1, h2⟩ := h
 obtain ⟨now, hi, mi, hb⟩ := h1.blk
 intro hm
 simp only [List.mem_cons, List.not_mem_nil, or_false] at hm
 rcases hm with rfl | rfl | rfl | rfl
 ·exact blk_ne_tyD hk hb ht rfl
 ·exact blk_ne_mapD h1.map hk rfl
 ·exact blk_ne_mapD h1.dk.safe hk rfl
 ·exact blk_ne_mapD h1.dk.opn hk rfl
theorem ci_sectors (h : CcI w c kb d sb ob n L N) : Calls Tryz.prog 137 #[.pointer (some ⟨c, 0, none⟩)] w fun e w' => e = .returned (.int .i64 (n : Int)) ∧ w = w' := by
 obtain ⟨K, S, O, h1, h2⟩ := h
 exact cc_sectors h1
def CiRead (w : World) (c kb d sb ob n : Nat) (L : Int → Sec) (N : Nat) (i : Int) (e : Ending) (w' : World) : Prop := ∃ v, e = .returned (.tuple #[v, .int .i64 0]) ∧ w'.ownsRow w.heap.size 5 1 v 512 (secL (L i)) ∧ CcI w' c kb d sb ob n L (N + 1) ∧ Tch [c, kb, sb, ob] w w'
theorem ci_read (h : CcI w c kb d sb ob n L N) (i : Nat) (hi : i < n) (hN : N ≤ 1000000) : Calls Tryz.prog 239 #[.pointer (some ⟨c, 0, none⟩), .int .i64 (i : Int)] w (CiRead w c kb d sb ob n L N i) := by
 obtain ⟨K, S, O, h1, h2, h3, h4, h5⟩ := h
 refine (cc_read h1 i hi (by omega)).mono ?_
 rintro e w1 ⟨v, K', rfl, ho, hC, hl, hT, hA⟩
 rw [h2] at ho
 exact ⟨v, rfl, ho, ⟨K', S, O, hC, h2, by omega, by omega, fun g hg => ⟨Nat.lt_of_lt_of_le (h5 g hg).1 hT.size, hA g (h5 g hg).1 (h5 g hg).2⟩⟩, hT.mono (fun k hk => by simp at hk; simp; omega)⟩
def CiWrite (w : World) (c kb d sb ob n : Nat) (L : Int → Sec) (N : Nat) (e : Ending) (w' : World) : Prop := e = .returned (.int .i64 0) ∧ CcI w' c kb d sb ob n L (N + 1) ∧ Tch [c, kb, sb, ob] w w'
theorem ci_write (h : CcI w c kb d sb ob n L N) (i : Nat) (hi : i < n) {A : Option Addr} {cap : Nat} {x : Sec} (hs : BSrc w A 512 (secL x)) (hN : N ≤ 1000000) :
  Calls Tryz.prog 140 #[.pointer (some ⟨c, 0, none⟩), .int .i64 (i : Int), .slice A 512 cap] w (CiWrite w c kb d sb ob n (setL L i x) N) := by
 obtain ⟨K, S, O, h1, h2, h3, h4, h5⟩ := h
 refine (cc_write h1 i hi hs (by omega) (by omega)).mono ?_
 rintro e w1 ⟨K', rfl, hC, hl, hT, hA⟩
 exact ⟨rfl, ⟨K', S, _, hC, fun j => by rw [latD_put]; unfold setL; rw [h2], by omega, by have := aput_lenQ O (i : Int) x; omega, fun g hg => ⟨Nat.lt_of_lt_of_le (h5 g hg).1 hT.size, hA g (h5 g hg).1 (h5 g hg).2⟩⟩, hT.mono (fun k hk => by simp at hk; simp; omega)⟩
theorem ci_sync (h : CcI w c kb d sb ob n L N) (hN : N ≤ 1000000) : Calls Tryz.prog 79 #[.pointer (some ⟨c, 0, none⟩)] w (CiWrite w c kb d sb ob n L N) := by
 obtain ⟨K, S, O, h1, h2, h3, h4, h5⟩ := h
 refine (cc_sync h1 (by omega)).mono ?_
 rintro e w1 ⟨S', rfl, hC, hl, hn, hT⟩
 exact ⟨rfl, ⟨K, S', [], hC, fun j => by rw [hl, h2], by omega, by simp; omega, fun g hg => ⟨Nat.lt_of_lt_of_le (h5 g hg).1 hT.size, (h5 g hg).2⟩⟩, hT.mono (fun k hk => by simp at hk; simp; omega)⟩
/-- .. whose rows lie in none of the blocks G. -/
def CcG (w : World) (c kb d sb ob n : Nat) (L : Int → Sec) (N : Nat) (G : Nat → Prop) : Prop := ∃ K S O, CcW w c kb d sb ob n K S O (fun _ => False) ∧ (∀ i, latD S O i = L i) ∧ K.length ≤ N ∧ S.length + O.length ≤ N ∧ (∀ g, gmG g → g < w.heap.size ∧ Avoid K g) ∧ ∀ g, G g → Avoid K g
theorem CcG.ci {G : Nat → Prop} (h : CcG w c kb d sb ob n L N G) : CcI w c kb d sb ob n L N := by
 obtain ⟨K, S, O, h1, h2, h3, h4, h5, _⟩ := h
 exact ⟨K, S, O, h1, h2, h3, h4, h5⟩
theorem CcI.cg (h : CcI w c kb d sb ob n L N) : CcG w c kb d sb ob n L N (fun g => w.heap.size ≤ g) := by
 obtain ⟨K, S, O, h1, h2, h3, h4, h5⟩ := h
 refine ⟨K, S, O, h1, h2, h3, h4, h5, fun g hg p hp a ha e => ?_⟩
 obtain ⟨b, off, cs, e2, hb, _⟩ := (h1.rows p hp).1
 rw [ha] at e2
 injection e2 with e2
 have := hb.lt
 rw [e2] at e
 simp only at e
 omega
theorem CcG.mono {G G' : Nat → Prop} (h : CcG w c kb d sb ob n L N G) (hG : ∀ g, G' g → G g) : CcG w c kb d sb ob n L N G' := by
 obtain ⟨K, S, O, h1, h2, h3, h4, h6, h5⟩ := h
 exact ⟨K, S, O, h1, h2, h3, h4, h6, fun g hg => h5 g (hG g hg)⟩
def CgRead (w : World) (c kb d sb ob n : Nat) (L : Int → Sec) (N : Nat) (G : Nat → Prop) (i : Int) (e : Ending) (w' : World) : Prop := ∃ v, e = .returned (.tuple #[v, .int .i64 0]) ∧ w'.ownsRow w.heap.size 5 1 v 512 (secL (L i)) ∧ CcG w' c kb d sb ob n L (N + 1) G ∧ Tch [c, kb, sb, ob] w w'
theorem cg_read {G : Nat → Prop} (h : CcG w c kb d sb ob n L N G) (hG : ∀ g, G g → g < w.heap.size) (i : Nat) (hi : i < n) (hN : N ≤ 1000000) : Calls Tryz.prog 239 #[.pointer (some ⟨c, 0, none⟩), .int .i64 (i : Int)] w (CgRead w c kb d sb ob n L N G i) := by
 obtain ⟨K, S, O, h1, h2, h3, h4, h6, h5⟩ := h
 refine (cc_read h1 i hi (by omega)).mono ?_
 rintro e w1 ⟨v, K', rfl, ho, hC, hl, hT, hA⟩
 rw [h2] at ho
 exact ⟨v, rfl, ho, ⟨K', S, O, hC, h2, by omega, by omega, fun g hg => ⟨Nat.lt_of_lt_of_le (h6 g hg).1 hT.size, hA g (h6 g hg).1 (h6 g hg).2⟩, fun g hg => hA g (hG g hg) (h5 g hg)⟩, hT.mono (fun k hk => by simp at hk; simp; omega)⟩
/-- A row of bytes turns that holds none of the cache's. -/
theorem CcG.turn {G : Nat → Prop} {g : Nat} {cs : Array Value} (h : CcG w c kb d sb ob n L N G) (hG : G g) (hb : Blk w g 5 cs) (hT : Tch [g] w w') : CcG w' c kb d sb ob n L N G := by
 obtain ⟨K, S, O, h1, h2, h3, h4, h6, h5⟩ := h
 obtain ⟨now, hi, mi, hc⟩ := h1.blk
 have n0 : c ∉ [g] := by have := blk_ne_tyD hc hb (by decide); simpa using this
 have n1 : kb ∉ [g] := by have := blk_ne_mapD h1.map hb; simpa using this.symm
 have n2 : d ∉ [g] := by have := blk_ne_tyD h1.dk.blk hb (by decide); simpa using this
 have n3 : sb ∉ [g] := by have := blk_ne_mapD h1.dk.safe hb; simpa using this.symm
 have n4 : ob ∉ [g] := by have := blk_ne_mapD h1.dk.opn hb; simpa using this.symm
 refine ⟨K, S, O, ⟨⟨now, hi, mi, hc.tch hT n0⟩, h1.map.tch hT n1, h1.dk.tch hT n2 n3 n4, fun p hp => ⟨?_, (h1.rows p hp).2⟩, h1.nes⟩, h2, h3, h4, fun g hg => ⟨Nat.lt_of_lt_of_le (h6 g hg).1 hT.size, (h6 g hg).2⟩, h5⟩
 obtain ⟨b, off, cs2, e2, hb2, h7⟩ := (h1.rows p hp).1
 exact ⟨b, off, cs2, e2, hb2.tch hT (by have := h5 g hG p hp _ e2; simpa using this), h7⟩
theorem CcG.below {G : Nat → Prop} (h : CcG w c kb d sb ob n L N G) (hb : Below w.heap.size w w') : CcG w' c kb d sb ob n L N G := by
 obtain ⟨K, S, O, h1, h2, h3, h4, h6, h5⟩ := h
 exact ⟨K, S, O, h1.below hb, h2, h3, h4, fun g hg => ⟨Nat.lt_of_lt_of_le (h6 g hg).1 hb.size, (h6 g hg).2⟩, h5⟩
theorem CcG.own {G : Nat → Prop} {base m sz : Nat} {v : Value} {ys : List Value} (h : CcG w c kb d sb ob n L N G) (ho : w.ownsRow base 5 sz v m ys) (hT : Tch [c, kb, sb, ob] w w') : w'.ownsRow base 5 sz v m ys := by
 refine ⟨ho.1, ho.2.imp id ?_⟩
 rintro ⟨g, cap, cur, e1, a1, a2, r⟩
 have h3 : Blk w g 5 cur := a2
 exact ⟨g, cap, cur, e1, a1, h3.tch hT (h.ci.noBlk h3 (by decide)), r⟩
end
end Go.Proofs.YtffalfacakdhkaaGreatDoor
namespace Go.Proofs.YtffalfacakdhkaaGreatDoor
open Go.RowKit Go.Maps Go.Shelf
set_option linter.unusedVariables false
set_option linter.unusedSimpArgs false
attribute [local go_sem] Oper.semAt_some

/-- The two boxes of the iterator, when k sectors have been told. -/
def SxB (Ba Bb at0 m b off : Nat) (k c : Nat) (W : World) : Prop := Boxed W Ba 3 (.int .i64 ((at0 + k : Nat) : Int)) ∧ ∃ A, Boxed W Bb 25 (.slice A (512 * (m - k)) c) ∧ (k < m → A = some ⟨b, off + 512 * k, none⟩ ∧ 512 * (m - k) ≤ c)
def sxLen (Bb : Nat) (W : World) : Nat := match W.cell? ⟨Bb, 0, none⟩ with
 | some (.slice _ n _) => n
 | _ => 0
/-- Block r is one of the two boxes. -/
def SxR (Ba Bb : Nat) (W : World) (r : Nat) : Prop := (r = Ba ∧ ∃ v, Boxed W Ba 3 v) ∨ (r = Bb ∧ ∃ v, Boxed W Bb 25 v)
theorem sx_end {Ba Bb at0 m b off k ln' c' X : Nat} {av : Int} {J : Nat → World → Prop} {W3 : World} {A' : Option Addr} {v0 : Value} (hne : Ba ≠ Bb)
  (hJ : ∀ k W W' row, J k W → W.grownBy W' row → (∀ r, row = some r → SxR Ba Bb W r) → J k W')
  (h3 : J (k + 1) W3) (hA : Boxed W3 Ba 3 (.int .i64 av)) (hB : Boxed W3 Bb 25 v0) (hk : k < m)
  (e1 : ((at0 + (k + 1) : Nat) : Int) = av + 1) (e2 : 512 * (m - (k + 1)) = ln') (e3 : k + 1 < m → A' = some ⟨b, off + 512 * (k + 1), none⟩ ∧ ln' ≤ c') (hlt : ln' < X) :
  (∃ k c, k ≤ m ∧ J k ((W3.setCell ⟨Bb, 0, none⟩ (.slice A' ln' c')).setCell ⟨Ba, 0, none⟩ (.int .i64 (av + 1))) ∧ SxB Ba Bb at0 m b off k c ((W3.setCell ⟨Bb, 0, none⟩ (.slice A' ln' c')).setCell ⟨Ba, 0, none⟩ (.int .i64 (av + 1)))) ∧
   sxLen Bb ((W3.setCell ⟨Bb, 0, none⟩ (.slice A' ln' c')).setCell ⟨Ba, 0, none⟩ (.int .i64 (av + 1))) < X := by
 have hB5 : Boxed ((W3.setCell ⟨Bb, 0, none⟩ (.slice A' ln' c')).setCell ⟨Ba, 0, none⟩ (.int .i64 (av + 1))) Bb 25 (.slice A' ln' c') := (hB.set _).other (fun e => hne e.symm) _
 refine ⟨⟨k + 1, c', hk, hJ _ _ _ (some Ba) (hJ _ _ _ (some Bb) h3 (grownBy_setCell' _ _ _) (fun r e => by injection e with e; subst e; exact .inr ⟨rfl, _, hB⟩)) (grownBy_setCell' _ _ _) (fun r e => by injection e with e; subst e; exact .inl ⟨rfl, _, hA.other hne _⟩), by rw [e1]; exact (hA.other hne _).set _, A', by rw [e2]; exact hB5, fun h => ⟨(e3 h).1, by rw [e2]; exact (e3 h).2⟩⟩, ?_⟩
 unfold sxLen
 rw [hB5.cell]
 exact hlt
set_option maxRecDepth 100000 in
set_option maxHeartbeats 1000000 in
theorem sx_in (F : Fence) (n : Nat) (hF : F.fn 203) (hro : F.round = none) (hn : 1 ≤ n) (l Ba Bb at0 m b off : Nat) (hm : m ≤ 100000) (ha : at0 ≤ 1000000) (hne : Ba ≠ Bb) (J : Nat → World → Prop)
  (hJ : ∀ k W W' row, J k W → W.grownBy W' row → (∀ r, row = some r → SxR Ba Bb W r) → J k W')
  (hY : ∀ k c W, k < m → J k W → SxB Ba Bb at0 m b off k c W → YieldAt F (n - 1) Tryz.prog l #[.int .i64 ((at0 + k : Nat) : Int), .slice (some ⟨b, off + 512 * k, none⟩) 512 c] W fun e W' => e = .returned (.bool true) ∧ J (k + 1) W' ∧ SxB Ba Bb at0 m b off k c W')
  (W : World) (c0 : Nat) (h0 : J 0 W) (hB : SxB Ba Bb at0 m b off 0 c0 W) :
  CallsIn F n Tryz.prog 203 #[.func (.yield l) #[] #[], .pointer (some ⟨Bb, 0, none⟩), .pointer (some ⟨Ba, 0, none⟩)] W fun e W' => (∃ v, e = .returned v) ∧ J m W' := by
 refine callsIn_of_wp Tryz.func203 rfl hF ?_ hro
 simp only [Tryz.ntmps203, List.size_toArray, List.length_cons, List.length_nil, Nat.reduceAdd, Nat.reduceSub, Array.replicate_succ, Array.replicate_zero, List.push_toArray, List.append_toArray, List.nil_append, List.cons_append]
 gi_wp2
 gi_loopw [4] (fun p wr => ∃ k c, k ≤ m ∧ J k wr ∧ SxB Ba Bb at0 m b off k c wr) (fun p wr => sxLen Bb wr)
 case atStart => exact ⟨0, c0, Nat.zero_le _, h0, hB⟩
 case round =>
  obtain ⟨k, c, hk, hJk, hBa, A, hBb, hA⟩ := hrel
  have ca := hBa.cell
  have fa := hBa.frozen
  have cb := hBb.cell
  have fb := hBb.frozen
  have hlen : sxLen Bb wr = 512 * (m - k) := by unfold sxLen; rw [cb]
  by_cases hkm : k < m
  ·obtain ⟨rfl, hc⟩ := hA hkm
   obtain ⟨fn, tmps, assign, body, hy, hR⟩ := hY k c wr.drew hkm (hJ _ _ _ none hJk ⟨rfl, rfl, rfl, Nat.le_refl _, fun _ _ _ => rfl⟩ (by simp)) ⟨hBa, _, hBb, hA⟩
   obtain ⟨av, hav⟩ : ∃ av : Int, av = ((at0 + k : Nat) : Int) := ⟨_, rfl⟩
   obtain ⟨ln, hln⟩ : ∃ ln : Nat, ln = 512 * (m - k) := ⟨_, rfl⟩
   obtain ⟨o1, ho1⟩ : ∃ o1 : Nat, o1 = off + 512 * k := ⟨_, rfl⟩
   have hl1 : 512 ≤ ln ∧ ln ≤ c ∧ ln ≤ 100000000 := by omega
   have hl2 : (0 : Int) < (ln : Int) := by omega
   have hl3 : (512 : Int) ≤ (ln : Int) := by omega
   have hl4 : (512 : Int) ≤ (c : Int) := by omega
   have hl5 : (ln : Int) ≤ (c : Int) := by omega
   rw [← hav] at hy ca
   rw [← hln] at cb hlen
   rw [← ho1] at hy cb
   have HV := yH (And.intro hav (And.intro hln ho1))
   have HB := yH hBb
   have HA := yH hBa
   clear hav hln ho1 hBb hA hBa hY hB h0
   have hd : 1 ≤ n := hn
   have hmx : Tryz.prog.follows .mixedOrders = true := by kernel_rfl
   have e1 : ((at0 + (k + 1) : Nat) : Int) = av + 1 := by rw [HV.out.1]; omega
   have e2 : 512 * (m - (k + 1)) = ln - 512 := by have := HV.out.2.1; omega
   have e3 : off + 512 * (k + 1) = o1 + 512 := by have := HV.out.2.2; omega
   have HE := yH (And.intro e1 (And.intro e2 e3))
   have hav2 : -1000 ≤ av ∧ av ≤ 2000000 := by have := HV.out.1; omega
   clear e1 e2 e3
   by_cases hcc : c = 512
   ·subst hcc
    obtain rfl : ln = 512 := by omega
    gi_wp2
    gi_region_with_o (refine hR.mono ?_; rintro e W3 ⟨rfl, hJ3, hB3⟩)
    all_goals
     obtain ⟨hBa3, A3, hBb3, hA3⟩ := hB3
     obtain ⟨rfl, _⟩ := hA3 hkm
     rw [← HV.out.1] at hBa3
     rw [← HV.out.2.1, ← HV.out.2.2] at hBb3
     have ca3 := hBa3.cell
     have fa3 := hBa3.frozen
     have cb3 := hBb3.cell
     have fb3 := hBb3.frozen
     have HB3 := yH hBb3
     have HA3 := yH hBa3
     have HJ3 := yH hJ3
     clear hBa3 hBb3 hA3 hJ3 hR hy
     gi_wp2
     exact sx_end hne hJ HJ3.out HA3.out HB3.out hkm HE.out.1 (by have := HE.out.2.1; omega) (fun h => by have := HV.out.2.1; omega) (by rw [hlen]; omega)
   ·have hcI : ¬ (c : Int) = 512 := by omega
    gi_wp2
    gi_region_with_o (refine hR.mono ?_; rintro e W3 ⟨rfl, hJ3, hB3⟩)
    all_goals
     obtain ⟨hBa3, A3, hBb3, hA3⟩ := hB3
     obtain ⟨rfl, _⟩ := hA3 hkm
     rw [← HV.out.1] at hBa3
     rw [← HV.out.2.1, ← HV.out.2.2] at hBb3
     have ca3 := hBa3.cell
     have fa3 := hBa3.frozen
     have cb3 := hBb3.cell
     have fb3 := hBb3.frozen
     have HB3 := yH hBb3
     have HA3 := yH hBa3
     have HJ3 := yH hJ3
     clear hBa3 hBb3 hA3 hJ3 hR hy
     gi_wp2
     exact sx_end hne hJ HJ3.out HA3.out HB3.out hkm HE.out.1 HE.out.2.1 (fun h => ⟨by rw [HE.out.2.2], by omega⟩) (by rw [hlen]; omega)
  ·obtain rfl : k = m := by omega
   have e0 : 512 * (k - k) = 0 := by omega
   rw [e0] at cb
   clear hY hB h0
   gi_wp2
   go_end0
   exact ⟨⟨_, rfl⟩, hJk⟩
end Go.Proofs.YtffalfacakdhkaaGreatDoor
namespace Go.Proofs.YtffalfacakdhkaaGreatDoor
open Go.RowKit Go.Maps Go.Shelf
set_option linter.unusedVariables false
set_option linter.unusedSimpArgs false

theorem SxB.kept {Ba Bb at0 m b off k c : Nat} {W W' : World} {row : Option Nat} (h : SxB Ba Bb at0 m b off k c W) (hg : W.grownBy W' row) (h1 : some Ba ≠ row) (h2 : some Bb ≠ row) : SxB Ba Bb at0 m b off k c W' := by
 obtain ⟨ha, A, hb, hA⟩ := h
 exact ⟨ha.kept hg h1, A, hb.kept hg h2, hA⟩
/-- How a round is left: it goes on. -/
def sxPost (B : Nat) (Ba Bb at0 m b off k c : Nat) (I : Nat → World → Prop) (W : World) : Exit → Act → World → Prop
 | .normal, _, W' => KeepsFrom B W W' ∧ I (k + 1) W' ∧ SxB Ba Bb at0 m b off k c W'
 | _, _, _ => False
theorem wpIn_range_sx {F : Fence} {n : Nat} {g : Operand} {ps : Array Tmp} {assign body : Code} {Q : Exit → Act → World → Prop} {a : Act} {w : World}
  (hro : F.round = none) (h1 : 2 ≤ n) (hFg : F.fn 203) {Ba Bb at0 m b off c0 : Nat} (hm : m ≤ 100000) (ha : at0 ≤ 1000000) (hne : Ba ≠ Bb) (hBa : Ba < w.heap.size) (hBb : Bb < w.heap.size)
  (hg : a.eval g = .func (.func 203) #[] #[.pointer (some ⟨Bb, 0, none⟩), .pointer (some ⟨Ba, 0, none⟩)]) (hps : ps.size = 2)
  (I : Nat → World → Prop) (hI : ∀ k W W' row, I k W → W.grownBy W' row → (∀ r, row = some r → SxR Ba Bb W r ∨ (w.heap.size ≤ r ∧ ∃ o : Obj, W.heap[r]? = some o ∧ o.isCells = false)) → I k W')
  (h0 : I 0 w) (hB : SxB Ba Bb at0 m b off 0 c0 w) (a₁ : Nat → Nat → Act)
  (hassign : ∀ (l k c : Nat) (W : World) (K : Act → World → Prop), K (a₁ k c) W →
   assign.wpIn (F.inRound l) (n - 1 - 1) Tryz.prog (Exit.then K (fun _ _ _ => False)) { tmps := (ps.zip #[.int .i64 ((at0 + k : Nat) : Int), .slice (some ⟨b, off + 512 * k, none⟩) 512 c]).foldl (fun t (p, v) => t.setIfInBounds p v) a.tmps, defers := [] } W)
  (hbody : ∀ (l k c : Nat) (W : World), k < m → I k W → SxB Ba Bb at0 m b off k c W → body.wpIn (F.inRound l) (n - 1 - 1) Tryz.prog (sxPost w.heap.size Ba Bb at0 m b off k c I W) (a₁ k c) W)
  (hdone : ∀ (D : Nat) (W : World), w.heap.size ≤ D → I m W → W.heap[D]? = some (.deferred (some [])) → Q .normal { a with defers := { target := .collected D, args := #[] } :: a.defers } W) :
  (Code.rangeFunc g ps assign body).wpIn F n Tryz.prog Q a w := by
 refine wpIn_rangeFunc ?_
 intro fn hfn
 rw [hro]
 obtain ⟨rec, hrec⟩ : ∃ rec : LoopState → Option Code → Loop, rec = fun st pe => { state := st, pending := pe, fn, tmps := a.tmps, params := ps, assign, body, defers := w.heap.size } := ⟨_, rfl⟩
 obtain ⟨W1, hW1⟩ : ∃ W1, (w.alloc (.deferred (some []))).alloc (.loop (rec .ready none)) = W1 := ⟨_, rfl⟩
 have hL1 : W1.heap[w.heap.size + 1]? = some (.loop (rec .ready none)) := by
  rw [← hW1]; have := World.alloc_heap_new (w.alloc (.deferred (some []))) (.loop (rec .ready none)); rwa [World.size_alloc] at this
 have hK1 : W1.heap[w.heap.size]? = some (.deferred (some [])) := by
  rw [← hW1]; exact (Below.heap_alloc _ _ _ (by simp)).trans (World.alloc_heap_new w _)
 have hI1 : I 0 W1 := by rw [← hW1]; exact hI _ _ _ none (hI _ _ _ none h0 (World.grownBy_alloc w _ none) (by simp)) (World.grownBy_alloc _ _ none) (by simp)
 have hB1 : SxB Ba Bb at0 m b off 0 c0 W1 := by rw [← hW1]; exact (hB.kept (World.grownBy_alloc w _ none) (by simp) (by simp)).kept (World.grownBy_alloc _ _ none) (by simp) (by simp)
 refine ⟨w.heap.size + 1, [{ target := .collected w.heap.size, args := #[] }], W1, { target := .fn (.func 203) #[.pointer (some ⟨Bb, 0, none⟩), .pointer (some ⟨Ba, 0, none⟩)], args := #[.func (.yield (w.heap.size + 1)) #[] #[]] }, W1, 203,
  #[.func (.yield (w.heap.size + 1)) #[] #[]] ++ #[.pointer (some ⟨Bb, 0, none⟩), .pointer (some ⟨Ba, 0, none⟩)], W1, ?_, ?_, ?_, ?_, fun _ => by omega, ?_⟩
 ·rw [← hW1, hrec]; exact run_enterLoop_outer _ _ _ _ _
 ·simp only [resolve, hg]
  simp [go_sem]
 ·intro f' hf'; simp [Target.leads] at hf'; subst hf'; exact hFg
 ·have eg := enters_of Tryz.func203 (by kernel_rfl) rfl
  simp [invoke, go_sem, eg]
 ·refine (sx_in F (n - 1) hFg hro (by omega) (w.heap.size + 1) Ba Bb at0 m b off hm ha hne
   (fun k W => I k W ∧ W.heap[w.heap.size + 1]? = some (.loop (rec .ready none)) ∧ W.heap[w.heap.size]? = some (.deferred (some [])))
   (fun k A B row hs hg' hr => ⟨hI k A B row hs.1 hg' (fun r e => .inl (hr r e)),
    (hg'.block _ (Array.getElem?_eq_some_iff.1 hs.2.1).1 (fun e => by rcases hr _ e.symm with ⟨h, _⟩ | ⟨h, _⟩ <;> omega)).trans hs.2.1,
    (hg'.block _ (Array.getElem?_eq_some_iff.1 hs.2.2).1 (fun e => by rcases hr _ e.symm with ⟨h, _⟩ | ⟨h, _⟩ <;> omega)).trans hs.2.2⟩)
   ?_ W1 c0 ⟨hI1, hL1, hK1⟩ hB1).mono ?_
  ·-- one round
   rintro k c W hk ⟨hi, hl, hkk⟩ hSx
   have hlt : w.heap.size + 1 < W.heap.size := (Array.getElem?_eq_some_iff.1 hl).1
   have hy := run_yield (P := Tryz.prog) (args := #[.int .i64 ((at0 + k : Nat) : Int), .slice (some ⟨b, off + 512 * k, none⟩) 512 c]) hl (by rw [hrec]; simpa using hps.symm)
   rw [hrec] at hy
   refine ⟨fn, _, assign, body, hy, roundIn_of_wpIn hfn (hassign _ k c W _ ⟨_, run_beginRound hl (by rw [hrec]), ?_⟩)⟩
   have hl2 : (W.putObj (w.heap.size + 1) (.loop { rec .ready none with state := .busy })).heap[w.heap.size + 1]? = some (.loop { rec .ready none with state := .busy }) := World.putObj_heap_same hlt
   have hk2 : (W.putObj (w.heap.size + 1) (.loop { rec .ready none with state := .busy })).heap[w.heap.size]? = some (.deferred (some [])) := (World.putObj_heap_other (by omega)).trans hkk
   have hi2 : I k (W.putObj (w.heap.size + 1) (.loop { rec .ready none with state := .busy })) := hI _ _ _ _ hi (grownBy_putObj' _ _ _) (fun r e => by injection e with e; subst e; exact .inr ⟨by omega, _, hl, rfl⟩)
   have hS2 := hSx.kept (grownBy_putObj' W (w.heap.size + 1) (.loop { rec .ready none with state := .busy })) (by simp; omega) (by simp; omega)
   refine wpIn_mono (hbody _ k c _ hk hi2 hS2) ?_
   rintro e a3 W3 hp
   cases e with
   | normal =>
    obtain ⟨hk3, hi3, hS3⟩ := hp
    have hl3 := hk3.same _ _ (by omega) hl2 rfl
    have hd3 := hk3.same _ _ (Nat.le_refl _) hk2 rfl
    have hr := run_endRound (P := Tryz.prog) none hl3
    rw [hrec] at hr
    refine ⟨_, _, hr, rfl, ⟨hI _ _ _ _ hi3 (grownBy_putObj' _ _ _) (fun r e => by injection e with e; subst e; exact .inr ⟨by omega, _, hl3, rfl⟩), ?_, ?_⟩, hS3.kept (grownBy_putObj' _ _ _) (by simp; omega) (by simp; omega)⟩
    ·rw [hrec]; exact World.putObj_heap_same (Array.getElem?_eq_some_iff.1 hl3).1
    ·exact (World.putObj_heap_other (by omega)).trans hd3
   | ret => exact hp.elim
   | exit id => exact hp.elim
   | goto t => exact hp.elim
   | panic ch => exact hp.elim
   | outgrown => exact hp.elim
  ·rintro e W2 ⟨⟨v, rfl⟩, hi, hl, hkk⟩
   refine ⟨none, _, by have := run_endLoop (P := Tryz.prog) hl (by rw [hrec]; simp); rw [hrec] at this; exact this, hdone _ _ (Nat.le_refl _) (hI _ _ _ _ hi (grownBy_putObj' _ _ _) (fun r e => by injection e with e; subst e; exact .inr ⟨by omega, _, hl, rfl⟩)) ((World.putObj_heap_other (by omega)).trans hkk)⟩
end Go.Proofs.YtffalfacakdhkaaGreatDoor
namespace Go.Proofs.YtffalfacakdhkaaGreatDoor
open Go.RowKit Go.Maps Go.Shelf
set_option linter.unusedVariables false
set_option linter.unusedSimpArgs false

/-- Sectors X laid from at0 on. -/
def putL (L : Int → Sec) (at0 : Nat) (X : List Sec) (i : Int) : Sec := if (at0 : Int) ≤ i ∧ i < (at0 : Int) + X.length then X.getD (i - at0).toNat zSec else L i
theorem putL_nil (L : Int → Sec) (at0 : Nat) : putL L at0 [] = L := by
 funext i
 unfold putL
 rw [if_neg (by simp)]
theorem putL_step (L : Int → Sec) (at0 : Nat) (X : List Sec) (k : Nat) (hk : k < X.length) : setL (putL L at0 (X.take k)) ((at0 + k : Nat) : Int) X[k] = putL L at0 (X.take (k + 1)) := by
 funext i
 unfold setL putL
 have h1 : (X.take k).length = k := by rw [List.length_take]; omega
 have h2 : (X.take (k + 1)).length = k + 1 := by rw [List.length_take]; omega
 rw [h1, h2]
 by_cases e : ((at0 + k : Nat) : Int) = i
 ·subst e
  rw [if_pos rfl, if_pos (by omega)]
  have : (((at0 + k : Nat) : Int) - (at0 : Int)).toNat = k := by omega
  rw [this, List.getD_eq_getElem?_getD, List.getElem?_take, if_pos (by omega), List.getElem?_eq_getElem hk]
  rfl
 ·rw [if_neg e]
  by_cases c : (at0 : Int) ≤ i ∧ i < (at0 : Int) + k
  ·rw [if_pos (by omega), if_pos (by omega)]
   rw [List.getD_eq_getElem?_getD, List.getD_eq_getElem?_getD, List.getElem?_take, List.getElem?_take, if_pos (by omega), if_pos (by omega)]
  ·rw [if_neg (by omega), if_neg (by omega)]
def secsL (X : List Sec) : List Value := X.flatMap secL
theorem secsL_part (X : List Sec) : ∀ (k : Nat) (hk : k < X.length), ((secsL X).drop (512 * k)).take 512 = secL X[k] := by
 induction X with
 | nil => intro k hk; simp at hk
 | cons x X ih =>
  intro k hk
  have e : secsL (x :: X) = secL x ++ secsL X := rfl
  cases k with
  | zero =>
   rw [e, Nat.mul_zero, List.drop_zero, List.take_append_of_le_length (by rw [secL_len]; exact Nat.le_refl _), List.take_of_length_le (by rw [secL_len]; exact Nat.le_refl _)]
   rfl
  | succ k =>
   have hk' : k < X.length := by simpa using hk
   rw [e, List.drop_append, secL_len, show 512 * (k + 1) - 512 = 512 * k by omega, List.drop_eq_nil_of_le (by rw [secL_len]; omega), List.nil_append]
   exact ih k hk'
section
variable {w w' : World} {c kb d sb ob n : Nat} {L : Int → Sec} {N : Nat}
theorem CcI.congr [gm : Inhabited GMk] {L' : Int → Sec} (h : CcI w c kb d sb ob n L N) (e : L = L') : CcI w c kb d sb ob n L' N := e ▸ h
set_option maxRecDepth 100000 in
theorem bl_may [gm : Inhabited GMk] (h : CcI w c kb d sb ob n L N) (at0 m : Nat) (ham : at0 + m ≤ n) : Calls Tryz.prog 138 #[.pointer (some ⟨c, 0, none⟩), .int .i64 (at0 : Int), .int .i64 (m : Int)] w fun e w' => e = .returned (.int .i64 0) ∧ w = w' := by
 have H := yH h
 have hr := h.rng
 have e1 : ¬ (at0 : Int) < 0 := by omega
 have e2 : ¬ (n : Int) < (at0 : Int) := by omega
 have e3 : ¬ (n : Int) - (at0 : Int) < (m : Int) := by omega
 clear h
 go_enter Tryz.func138, Tryz.ntmps138
 go_wp2_with (go_at_call 137; refine (ci_sectors H.out).mono ?_; rintro e w1 ⟨rfl, rfl⟩)
 go_ret
 exact ⟨rfl, rfl⟩
def SxPost (at0 : Int) (v : Value) (w : World) (e : Ending) (w' : World) : Prop := ∃ Ba Bb, e = .returned (.func (.func 203) #[] #[.pointer (some ⟨Bb, 0, none⟩), .pointer (some ⟨Ba, 0, none⟩)]) ∧ Boxed w' Ba 3 (.int .i64 at0) ∧ Boxed w' Bb 25 v ∧ Ba ≠ Bb ∧ w.heap.size ≤ Ba ∧ w.heap.size ≤ Bb ∧ Below w.heap.size w w'
theorem bl_sectors (at0 : Int) (A : Option Addr) (m c : Nat) (w : World) : Calls Tryz.prog 139 #[.int .i64 at0, .slice A m c] w (SxPost at0 (.slice A m c) w) := by
 go_enter Tryz.func139, Tryz.ntmps139
 go_wp2
 go_ret
 have hs : (w.alloc (Obj.cells #[.int .i64 at0] 3)).heap.size = w.heap.size + 1 := by simp
 refine ⟨w.heap.size, w.heap.size + 1, by first | rfl | (rw [← hs]; rfl), (Boxed.new w _ _).alloc _, ?_, by omega, by omega, by omega, ((Below.refl _ _).alloc (Nat.le_refl _) _).alloc (by simp) _⟩
 have := Boxed.new (w.alloc (Obj.cells #[.int .i64 at0] 3)) 25 (.slice A m c)
 rw [hs] at this
 exact this
end
end Go.Proofs.YtffalfacakdhkaaGreatDoor
