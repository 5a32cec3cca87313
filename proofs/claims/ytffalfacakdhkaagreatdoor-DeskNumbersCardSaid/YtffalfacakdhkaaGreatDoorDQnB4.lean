/-
  what this claim needs of: QnB4, QnB5 (written by cut.py).
-/
import Derived.Test.YtffalfacakdhkaaGreatDoorDQnC4
namespace Go.Proofs.YtffalfacakdhkaaGreatDoor
open Go.RowKit Go.Maps Go.Shelf
set_option linter.unusedVariables false
set_option linter.unusedSimpArgs false
attribute [local go_sem] Oper.semAt_some
section
variable {w w' : World} {c kb d sb ob n : Nat} {L : Int → Sec} {N : Nat}
variable {L' : Int → Sec} {N' : Nat}
theorem CcI.step [gm : Inhabited GMk] {r : Nat} {W W' : World} (h : CcI W c kb d sb ob n L N) (hT : Tch [r] W W') (hr : c < r ∧ kb < r ∧ d < r ∧ sb < r ∧ ob < r) (hu : ∀ b cs, Blk W b 5 cs → b ≠ r) : CcI W' c kb d sb ob n L N := by
 obtain ⟨K, S, O, h1, h2, h3, h4, h5⟩ := h
 exact ⟨K, S, O, h1.tch hT (by simp; omega) (by simp; omega) (by simp; omega) (by simp; omega) (by simp; omega) (fun b cs hb => by have := hu b cs hb; simpa using this), h2, h3, h4, fun g hg => ⟨Nat.lt_of_lt_of_le (h5 g hg).1 hT.size, (h5 g hg).2⟩⟩
/-- Between two rounds of a range over sectors. -/
structure BwI [gm : Inhabited GMk] (w : World) (c kb d sb ob n : Nat) (L : Int → Sec) (N : Nat) (A : Option Addr) (m : Nat) (ys : List Value) (b1 b2 : Nat) (t1 t2 : TypeId) (v1 v2 : Value) (W : World) : Prop where
 cc : CcI W c kb d sb ob n L N
 src : BSrc W A m ys
 box1 : Boxed W b1 t1 v1
 box2 : Boxed W b2 t2 v2
 tch : Tch [c, kb, sb, ob] w W
theorem BwI.step [gm : Inhabited GMk] {A : Option Addr} {m : Nat} {ys : List Value} {b1 b2 : Nat} {t1 t2 : TypeId} {v1 v2 : Value} {W W' : World} {r : Nat} (h : BwI w c kb d sb ob n L N A m ys b1 b2 t1 t2 v1 v2 W) (hl : CcI w c kb d sb ob n L' N') (hT : W.grownBy W' (some r)) (hr : w.heap.size ≤ r) (h1 : b1 ≠ r) (h2 : b2 ≠ r) (hu : ∀ b cs, Blk W b 5 cs → b ≠ r) : BwI w c kb d sb ob n L N A m ys b1 b2 t1 t2 v1 v2 W' := by
 have hlt := hl.lts
 exact ⟨h.cc.step (tch_g hT) (by omega) hu, h.src.tch (tch_g hT) (fun b cs hb => by have := hu b cs hb; simpa using this), h.box1.kept hT (by simpa using h1), h.box2.kept hT (by simpa using h2), h.tch.fresh (tch_g hT) (fun i hi => by simp at hi; subst hi; exact .inr hr)⟩
theorem BwI.none [gm : Inhabited GMk] {A : Option Addr} {m : Nat} {ys : List Value} {b1 b2 : Nat} {t1 t2 : TypeId} {v1 v2 : Value} {W W' : World} (h : BwI w c kb d sb ob n L N A m ys b1 b2 t1 t2 v1 v2 W) (hg : W.grownBy W' none) : BwI w c kb d sb ob n L N A m ys b1 b2 t1 t2 v1 v2 W' := by
 have hb : Below W.heap.size W W' := bl_n (Below.refl _ _) hg
 exact ⟨h.cc.below hb, h.src.below hb, h.box1.kept hg (by simp), h.box2.kept hg (by simp), h.tch.trans (Tch.below hb)⟩
theorem notU8_box {W : World} {r : Nat} {t : TypeId} {v : Value} (h : Boxed W r t v) (ht : t ≠ 5) : ∀ b cs, Blk W b 5 cs → b ≠ r := fun b cs hb => blk_ne_tyD hb (show Blk W r t #[v] from h) (fun e => ht e.symm)
theorem notU8_obj {W : World} {r : Nat} {o : Obj} (h : W.heap[r]? = some o) (ho : o.isCells = false) : ∀ b cs, Blk W b 5 cs → b ≠ r := by
 rintro b cs hb rfl
 unfold Blk at hb
 rw [h] at hb
 injection hb with hb
 subst hb
 cases ho
def BlPost [gm : Inhabited GMk] (w : World) (c kb d sb ob n : Nat) (L : Int → Sec) (N : Nat) (e : Ending) (w' : World) : Prop := e = .returned (.int .i64 0) ∧ CcI w' c kb d sb ob n L N ∧ Tch [c, kb, sb, ob] w w'
set_option maxRecDepth 100000 in
set_option maxHeartbeats 200000 in
theorem bl_write [gm : Inhabited GMk] (h : CcI w c kb d sb ob n L N) (at0 : Nat) (X : List Sec) (hX : 1 ≤ X.length ∧ X.length ≤ 1024) (hat : at0 + X.length ≤ n) {A : Option Addr} {cap : Nat} (hs : BSrc w A (512 * X.length) (secsL X)) (hcap : 512 * X.length ≤ cap) (hN : N + X.length ≤ 900000) :
  Calls Tryz.prog 77 #[.pointer (some ⟨c, 0, none⟩), .int .i64 (at0 : Int), .slice A (512 * X.length) cap] w (BlPost w c kb d sb ob n (putL L at0 X) (N + X.length)) := by
 obtain ⟨b, off, rfl, _, _⟩ := hs.rng
 have H := yH h
 have HS := yH hs
 have HR := yH h.rng
 have HA := yH (And.intro hX (And.intro hat hN))
 obtain ⟨ln, hln⟩ : ∃ ln : Nat, ln = 512 * X.length := ⟨_, rfl⟩
 have HL := yH hln
 have HCp := yH hcap
 have hm := yH (bl_may h at0 X.length hat)
 have hq1 : ¬ (n : Int) = 0 := by have := h.rng; omega
 have hq1b : ((n : Int) == 0) = false := beq_eq_false_iff_ne.2 hq1
 have hq2 : (ln : Int).tmod 512 = 0 := by rw [Int.tmod_eq_emod_of_nonneg (by omega)]; omega
 have hq3 : (ln : Int).tdiv 512 = (X.length : Int) := by rw [Int.tdiv_eq_ediv_of_nonneg (by omega)]; omega
 have hxl : 1 ≤ (X.length : Int) ∧ (X.length : Int) ≤ 300000 := by have := h.rng; omega
 rw [← hln]
 clear h hs hX hat hN hln hcap
 refine (callsIn_wide (n := 4)).1 ?_
 refine callsIn_of_wp_marks Tryz.func77 rfl trivial ?_ rfl
 simp only [Tryz.ntmps77, List.size_toArray, List.length_cons, List.length_nil, Nat.reduceAdd, Nat.reduceSub, Array.replicate_succ, Array.replicate_zero, List.push_toArray, List.append_toArray, List.nil_append, List.cons_append]
 gi_wp2
 obtain ⟨w1, hw1⟩ : ∃ v, v = (w.alloc (Obj.cells #[Value.pointer (some ⟨c, 0, none⟩)] 117)).alloc (Obj.cells #[Value.int .i64 0] 38) := ⟨_, rfl⟩
 have hsz : (w.alloc (Obj.cells #[Value.pointer (some ⟨c, 0, none⟩)] 117)).heap.size = w.heap.size + 1 := by simp
 have KC := yH (show Boxed w1 w.heap.size 117 (.pointer (some ⟨c, 0, none⟩)) by rw [hw1]; exact (Boxed.new w _ _).alloc _)
 have KR := yH (show Boxed w1 (w.heap.size + 1) 38 (.int .i64 0) by
  rw [hw1, ← hsz]; exact Boxed.new _ _ _)
 have L1 := yH (show Below w.heap.size w w1 by rw [hw1]; exact ((Below.refl _ w).alloc (Nat.le_refl _) _).alloc (by simp) _)
 rw [← hw1]
 clear hw1 hsz hm
 have kc := KC.out.cell
 refine ⟨trivial, (callsIn_wide.2 (ci_sectors (H.out.below L1.out))).mono ?_⟩
 rintro e w2 ⟨rfl, rfl⟩
 gi_wp2
 refine ⟨trivial, (callsIn_wide.2 (bl_may (H.out.below L1.out) at0 X.length HA.out.2.1)).mono ?_⟩
 rintro e w2 ⟨rfl, rfl⟩
 gi_wp2
 refine ⟨trivial, (callsIn_wide.2 (bl_sectors _ _ _ _ _)).mono ?_⟩
 rintro e w3 ⟨Ba, Bb, rfl, ha, hb, hne, l1, l2, hlow⟩
 gi_wp2
 have hw13 := hlow.size
 have hw01 := L1.out.size
 have hb1 := KR.out.lt
 have HG := yH (And.intro hne (And.intro l1 (And.intro l2 (And.intro hw13 (And.intro hw01 hb1)))))
 have KC3 := yH (show Boxed w3 w.heap.size 117 (.pointer (some ⟨c, 0, none⟩)) from (hlow.block _ KC.out.lt).trans KC.out)
 have KR3 := yH (show Boxed w3 (w.heap.size + 1) 38 (.int .i64 0) from (hlow.block _ KR.out.lt).trans KR.out)
 have L3 := yH (show Below w.heap.size w w3 from L1.out.trans (hlow.mono L1.out.size))
 have HBa := yH ha
 have HBb := yH hb
 clear ha hb hlow hne l1 l2 hw13 hw01 hb1 kc hq1 hq1b hq2 hq3 hxl KC KR L1
 refine wpIn_range_sx (at0 := at0) (m := X.length) (b := b) (off := off) (c0 := cap) (Ba := Ba) (Bb := Bb) rfl (by omega) trivial (by have := HA.out; omega) (by have := HR.out; have := HA.out; omega) HG.out.1 HBa.out.lt HBb.out.lt rfl rfl
  (fun k W => BwI w c kb d sb ob n (putL L at0 (X.take k)) (N + k) (some ⟨b, off, none⟩) (512 * X.length) (secsL X) w.heap.size (w.heap.size + 1) 117 38 (.pointer (some ⟨c, 0, none⟩)) (.int .i64 0) W)
  ?hI ?h0 ?hB
  (fun k cp => { tmps := #[Value.pointer (some ⟨c, 0, none⟩), Value.int .i64 (at0 : Int), Value.slice (some ⟨b, off, none⟩) ln cap, Value.pointer (some ⟨w.heap.size, 0, none⟩), undef, undef, Value.pointer (some ⟨w.heap.size + 1, 0, none⟩), Value.int .i64 0,
   Value.int .i64 ((at0 + k : Nat) : Int), Value.slice (some ⟨b, off + 512 * k, none⟩) 512 cp, undef, Value.bool false, Value.pointer (some ⟨c, 0, none⟩), Value.int .i64 (n : Int),
   Value.bool false, Value.bool false, Value.slice (some ⟨b, off, none⟩) ln cap, Value.int .i64 (ln : Int), Value.int .i64 0, Value.bool false, Value.pointer (some ⟨c, 0, none⟩), Value.int .i64 (at0 : Int), Value.slice (some ⟨b, off, none⟩) ln cap, Value.int .i64 (ln : Int),
   Value.int .i64 (X.length : Int), Value.int .i64 0, Value.int .i64 0, Value.bool false, undef, Value.int .i64 (at0 : Int), Value.slice (some ⟨b, off, none⟩) ln cap,
   Value.func (Fn.func 203) #[] #[Value.pointer (some ⟨Bb, 0, none⟩), Value.pointer (some ⟨Ba, 0, none⟩)],
   Value.int .i64 ((at0 + k : Nat) : Int), Value.slice (some ⟨b, off + 512 * k, none⟩) 512 cp, undef, undef, undef, undef, undef, undef, undef], defers := [] })
  ?hassign ?hbody ?hdone
 case hI =>
  intro k W W' row h hg hr
  cases row with
  | none => exact h.none hg
  | some r =>
   rcases hr r rfl with (⟨rfl, v, hv⟩ | ⟨rfl, v, hv⟩) | ⟨hge, o, ho, hc⟩
   ·exact h.step H.out hg (by have := HG.out; omega) (by have := HG.out; omega) (by have := HG.out; omega) (notU8_box hv (by decide))
   ·exact h.step H.out hg (by have := HG.out; omega) (by have := HG.out; omega) (by have := HG.out; omega) (notU8_box hv (by decide))
   ·exact h.step H.out hg (by have := HG.out; omega) (by have := HG.out; omega) (by have := HG.out; omega) (notU8_obj ho hc)
 case h0 => exact ⟨((H.out.below L3.out).congr (by rw [List.take_zero, putL_nil])), HS.out.below L3.out, KC3.out, KR3.out, Tch.below L3.out⟩
 case hB => exact ⟨HBa.out, some ⟨b, off, none⟩, by rw [Nat.sub_zero, ← HL.out]; exact HBb.out, fun h => ⟨by simp, by have := HCp.out; omega⟩⟩
 case hassign =>
  intro l k cp W K hK
  gi_wp2
  exact hK
 case hbody =>
  intro l k cp W hk hI hSx
  have kc := hI.box1.cell
  have hlts := H.out.lts
  obtain ⟨q, hq⟩ : ∃ q : Nat, q = at0 + k := ⟨_, rfl⟩
  obtain ⟨o1, ho1⟩ : ∃ o1 : Nat, o1 = off + 512 * k := ⟨_, rfl⟩
  have hsrc : BSrc W (some ⟨b, o1, none⟩) 512 (secL X[k]) := by
   have := hI.src.part (512 * k) 512 (by omega)
   rw [secsL_part X k hk, ← ho1] at this
   exact this
  have hcall := ci_write hI.cc q (by have := HA.out; omega) (cap := cp) hsrc (by have := HA.out; omega)
  have HI := yH hI
  have HQ := yH hq
  have HSx := yH hSx
  have HC := yH hcall
  have HK := yH hk
  have HLt := yH hlts
  rw [← hq, ← ho1]
  clear hq ho1 hsrc hI hSx hcall hlts
  gi_wp2
  refine ⟨trivial, (CallsIn.inRound l (callsIn_wide.2 HC.out)).mono ?_⟩
  rintro e W2 ⟨rfl, hC, hT⟩
  have hno : ∀ (r : Nat) (t : TypeId) (v : Value), Boxed W r t v → t ≠ 206 → Boxed W2 r t v := fun r t v hb ht => (hT.block r hb.lt (HI.out.cc.noBlk (show Blk W r t #[v] from hb) ht)).trans hb
  have H2 := yH (show BwI w c kb d sb ob n (putL L at0 (X.take (k + 1))) (N + (k + 1)) (some ⟨b, off, none⟩) (512 * X.length) (secsL X) w.heap.size (w.heap.size + 1) 117 38 (.pointer (some ⟨c, 0, none⟩)) (.int .i64 0) W2 from
   ⟨hC.congr (by rw [HQ.out]; exact putL_step L at0 X k HK.out), HI.out.cc.bsrc HI.out.src hT, hno _ _ _ HI.out.box1 (by decide), hno _ _ _ HI.out.box2 (by decide), HI.out.tch.trans hT⟩)
  have S2 := yH (show SxB Ba Bb at0 X.length b off k cp W2 from by
   obtain ⟨h1, A, h2, h3⟩ := HSx.out
   exact ⟨hno _ _ _ h1 (by decide), A, hno _ _ _ h2 (by decide), h3⟩)
  have K2 := yH (show KeepsFrom w3.heap.size W W2 from ⟨hT.size, fun r o hB hr ho => (hT.block r (Array.getElem?_eq_some_iff.1 hr).1 (by have := HLt.out; have := HG.out; simp; omega)).trans hr⟩)
  clear hC hT hno kc
  gi_wp2
  exact ⟨K2.out, H2.out, S2.out⟩
 case hdone =>
  intro D W hD hI hK
  rw [List.take_length] at hI
  have kr := hI.box2.cell
  have fr := hI.box2.frozen
  have HI := yH hI
  clear hI
  gi_wp2
  have K5 := (HI.out.box2.set (.int .i64 0))
  have hD1 : w.heap.size ≤ D := by have := L3.out.size; omega
  have hDn : D ≠ w.heap.size + 1 := by have := HG.out; omega
  have hK5 : (W.setCell ⟨w.heap.size + 1, 0, none⟩ (.int .i64 0)).heap[D]? = some (Obj.deferred (some [])) := (Below.heap_setCell W ⟨w.heap.size + 1, 0, none⟩ _ D hDn).trans hK
  refine ⟨by simp, .inl ⟨_, _, rfl, run_takeDeferred hK5, ?_⟩⟩
  have hc5 := cell_kept K5.cell (grownBy_putObj' _ D (.deferred none)) (fun r e => by cases e; exact ⟨_, hK5, rfl⟩)
  have hlts := H.out.lts
  have C5 := (HI.out.cc.step (tch_g (grownBy_setCell' W (w.heap.size + 1) (.int .i64 0))) (by omega) (notU8_box HI.out.box2 (by decide))).step (tch_g (grownBy_putObj' _ D (.deferred none))) (by omega) (notU8_obj hK5 rfl)
  have T5 := (HI.out.tch.fresh (tch_g (grownBy_setCell' W (w.heap.size + 1) (.int .i64 0))) (fun i hi => by simp at hi; subst hi; exact .inr (by omega))).fresh (tch_g (grownBy_putObj' _ D (.deferred none))) (fun i hi => by simp at hi; subst hi; exact .inr (by omega))
  refine ⟨.int .i64 0, ?_, rfl, C5, T5⟩
  simp [results, Tryz.f77, go_sem, hc5]
end
end Go.Proofs.YtffalfacakdhkaaGreatDoor
namespace Go.Proofs.YtffalfacakdhkaaGreatDoor
open Go.RowKit Go.Maps
set_option linter.unusedVariables false
set_option linter.unusedSimpArgs false
section
variable {w w' : World} {c kb d sb ob n : Nat} {L : Int → Sec} {N : Nat}
/-- The sectors from at0 on. -/
def secsAt (L : Int → Sec) (at0 k : Nat) : List Sec := (List.range k).map (fun j => L ((at0 + j : Nat) : Int))
theorem secsAt_len (L : Int → Sec) (at0 k : Nat) : (secsAt L at0 k).length = k := by simp [secsAt]
theorem secsAt_succ (L : Int → Sec) (at0 k : Nat) : secsL (secsAt L at0 (k + 1)) = secsL (secsAt L at0 k) ++ secL (L ((at0 + k : Nat) : Int)) := by
 simp [secsAt, secsL, List.range_succ]
structure BrI [gm : Inhabited GMk] (w : World) (c kb d sb ob n : Nat) (L : Int → Sec) (N at0 : Nat) (k : Nat) (v : Value) (wr : World) : Prop where
 cc : CcG wr c kb d sb ob n L (N + k) (fun g => v.ownBlock = some g)
 own : wr.ownsRow w.heap.size 5 1 v (512 * k) (secsL (secsAt L at0 k))
 tch : Tch [c, kb, sb, ob] w wr
def BrL [gm : Inhabited GMk] (w : World) (c kb d sb ob n : Nat) (L : Int → Sec) (N at0 m : Nat) (gk : Nat) (v iv : Value) (wr : World) : Prop := ∃ k : Nat, iv = .int .i64 (k : Int) ∧ k ≤ m ∧ k + gk ≤ m ∧ m ≤ k + gk ∧ BrI w c kb d sb ob n L N at0 k v wr
def BrPost [gm : Inhabited GMk] (w : World) (c kb d sb ob n : Nat) (L : Int → Sec) (N at0 m : Nat) (e : Ending) (w' : World) : Prop := ∃ v, e = .returned (.tuple #[v, .int .i64 0]) ∧ w'.ownsRow w.heap.size 5 1 v (512 * m) (secsL (secsAt L at0 m)) ∧ CcI w' c kb d sb ob n L (N + m) ∧ Tch [c, kb, sb, ob] w w'
theorem CcG.more [gm : Inhabited GMk] {G : Nat → Prop} (h : CcG w c kb d sb ob n L N G) : CcG w c kb d sb ob n L N (fun g => G g ∨ w.heap.size ≤ g) := by
 obtain ⟨K, S, O, h1, h2, h3, h4, h6, h5⟩ := h
 refine ⟨K, S, O, h1, h2, h3, h4, h6, fun g hg => ?_⟩
 rcases hg with hg | hg
 ·exact h5 g hg
 ·intro p hp a ha e
  obtain ⟨b, off, cs, e2, hb, _⟩ := (h1.rows p hp).1
  rw [ha] at e2
  injection e2 with e2
  have := hb.lt
  rw [e2] at e
  simp only at e
  omega
/-- A row is appended to: onto a row of ours that holds none of the cache's. -/
theorem BrI.app [gm : Inhabited GMk] {at0 k : Nat} {v v' : Value} {wr W W' : World} (h : BrI w c kb d sb ob n L N at0 k v wr) (hC : CcG W c kb d sb ob n L (N + (k + 1)) (fun g => v.ownBlock = some g)) (hT : Tch [c, kb, sb, ob] wr W) (ho : W'.ownsRow w.heap.size 5 1 v' (512 * (k + 1)) (secsL (secsAt L at0 (k + 1)))) (hg : W.grownBy W' v.ownBlock) (hn : v'.ownBlock = v.ownBlock ∨ v'.ownBlock = some W.heap.size) : BrI w c kb d sb ob n L N at0 (k + 1) v' W' := by
 have hM := hC.more
 have key : CcG W' c kb d sb ob n L (N + (k + 1)) (fun g => v.ownBlock = some g ∨ W.heap.size ≤ g) ∧ Tch [c, kb, sb, ob] w W' := by
  cases hv : v.ownBlock with
  | none =>
   rw [hv] at hg hM
   exact ⟨hM.below (bl_n (Below.refl _ _) hg), (h.tch.trans hT).trans (Tch.below (bl_n (Below.refl _ _) hg))⟩
  | some g =>
   rw [hv] at hg hM
   rcases (h.own).2 with ⟨e, _⟩ | ⟨g', cap, cur, e, a1, a2, _⟩
   ·rw [e] at hv; cases hv
   ·rw [e] at hv
    injection hv with hv
    simp only at hv
    subst hv
    have hb : Blk wr g' 5 cur := a2
    exact ⟨hM.turn (.inl rfl) (hb.tch hT (h.cc.ci.noBlk hb (by decide))) (tch_g hg), (h.tch.trans hT).fresh (tch_g hg) (fun i hi => by simp at hi; subst hi; exact .inr a1)⟩
 refine ⟨?_, ho, key.2⟩
 rcases hn with e | e
 ·rw [e]; exact key.1.mono (fun g hg => .inl hg)
 ·rw [e]; exact key.1.mono (fun g hg => by injection hg with hg; exact .inr (by omega))
set_option maxRecDepth 100000 in
set_option maxHeartbeats 1000000 in
theorem bl_read [gm : Inhabited GMk] (h : CcI w c kb d sb ob n L N) (at0 m : Nat) (ham : at0 + m ≤ n) (hm : m ≤ 1024) (hN : N + m ≤ 900000) :
  Calls Tryz.prog 165 #[.pointer (some ⟨c, 0, none⟩), .int .i64 (at0 : Int), .int .i64 (m : Int)] w (BrPost w c kb d sb ob n L N at0 m) := by
 have H := yH h
 have HR := yH h.rng
 have HA := yH (And.intro ham hN)
 have hmay := yH (bl_may h at0 m ham)
 have hq1 : ¬ (n : Int) = 0 := by have := h.rng; omega
 have hq1b : ((n : Int) == 0) = false := beq_eq_false_iff_ne.2 hq1
 have hq2 : ¬ (m : Int) < 0 := by omega
 have hq3 : ¬ (1024 : Int) < (m : Int) := by omega
 have hq4 : (at0 : Int) ≤ 300000 := by have := h.rng; omega
 clear h ham hN
 go_enter Tryz.func165, Tryz.ntmps165
 go_upto_region 10 with (first
  | (go_at_call 137; refine (ci_sectors H.out).mono ?_; rintro e w1 ⟨rfl, rfl⟩)
  | (go_at_call 138; refine hmay.out.mono ?_; rintro e w1 ⟨rfl, rfl⟩))
 clear hmay hq1 hq1b hq2 hq3
 go_loopg [9, 32] m (fun gk v iv wr => BrL w c kb d sb ob n L N at0 m gk v iv wr)
 case atStart => exact ⟨0, rfl, by omega, by omega, by omega, H.out.cg.mono (fun g hg => by cases hg), World.ownsRow_nil _ _ _ _, Tch.refl _ _⟩
 case round =>
  obtain ⟨k, rfl, k1, k2, k3, hX⟩ := hrel
  have X := yH hX
  clear hX
  by_cases hk : k < m
  ·have hkI : (k : Int) < (m : Int) := by omega
   obtain ⟨q, hq⟩ : ∃ q : Nat, q = at0 + k := ⟨_, rfl⟩
   have hqe : (at0 : Int) + (k : Int) = (q : Int) := by omega
   have HQ := yH hq
   have hqb : (q : Int) ≤ 300000 := by have := HR.out; have := HA.out; omega
   have HC := yH (cg_read X.out.cc (fun g hg => (own_atD X.out.own g hg).2) q (by have := HA.out; omega) (by have := HA.out; omega))
   clear hq
   go_wp2_with (first
    | (refine app_src rfl (.tmp 46) (.tmp 47) 25 (by rfl) w.heap.size 5 _ 1 1 Tryz.underlying25 infoByte rfl (by omega) u9 (512 * k) (secsL (secsAt L at0 k)) (by rfl) O9.out _ 512 (secL (L ((q : Nat) : Int))) (by rfl) (Src.of_own O3.out) (secL_one _) (by omega) (by omega) W3.out ?_; intro v6 w6 ho hg hn; have X6 := yH (X.out.app C3.out T3.out (by rw [secsAt_succ, ← HQ.out]; exact ho) hg hn); clear ho hg hn; simp only [Act.put, yA, yB, yC])
    | (go_at_call 239; refine HC.out.mono ?_; rintro e w3 ⟨v3, rfl, ho, hC, hT⟩; obtain ⟨A3, cap3, rfl, _⟩ := own_slice ho; have O3 := yH ho; have C3 := yH (show CcG w3 c kb d sb ob n L (N + (k + 1)) (fun g => u9.ownBlock = some g) from hC); have T3 := yH hT; have O9 := yH (X.out.cc.own X.out.own hT); have W3 := yH (show w.heap.size ≤ w3.heap.size from Nat.le_trans X.out.tch.size hT.size); clear ho hC hT))
   go_roundg (gk - 1)
   case measure => omega
   case rel => exact ⟨k + 1, by first | rfl | (congr 1), by omega, by omega, by omega, X6.out⟩
  ·have hkI : ¬ (k : Int) < (m : Int) := by omega
   obtain rfl : k = m := by omega
   obtain ⟨A9, c9, rfl, _⟩ := own_slice X.out.own
   go_wp2_with fail
   go_ret2
   exact ⟨_, rfl, X.out.own, X.out.cc.ci, X.out.tch⟩
end
end Go.Proofs.YtffalfacakdhkaaGreatDoor
