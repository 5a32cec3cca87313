/-
  A region that draws its order, in which two operations that act may come first in either order, and what is behind them only reads.
  deflate.plain: bytes as they are.
  deflate.fixed: a block by the code that all know.
  deflate.fitted: a block by codes of its own.
  deflate.Deflate and deflate.Bound, walked.
-/
import Derived.Test.YthmcdohndckniaaGreatDoorMem
import Derived.Test.YthmcdohndckniaaGreatDoorDputs
import Derived.Test.YthmcdohndckniaaGreatDoorDPlains
import Derived.Test.YthmcdohndckniaaGreatDoorLz
import Derived.Test.YthmcdohndckniaaGreatDoorDeflA
namespace Go.Proofs.YthmcdohndckniaaGreatDoor
open Go.RowKit
set_option linter.unusedVariables false

section
variable {P : Program} {l : List Oper} {Q : Exit → Act → World → Prop}
theorem thenN {K : Act → World → Prop} {a : Act} {w : World} (h : K a w) : Exit.then K Q .normal a w := h
/-- Two that act may come first: each of them is walked, to one end. -/
theorem wp_region_fork {id : Nat} {a : Act} {w : World} (i j : Nat) (ix iy : List (Nat × Option Nat)) (R : Value → Value → World → Prop) (F : Act → Value → Value → Act) (oi oj : Oper) (hm : P.follows .mixedOrders = true) (hsz : l.toArray.size = ix.length + 1) (hsz2 : l.toArray.size = iy.length + 1)
    (h0 : Region.ready .any l.toArray (Array.replicate l.toArray.size false) = [i, j])
    (hok : okOrd l.toArray (actors ix) ix 0 ((Array.replicate l.toArray.size false).setIfInBounds i true) = true) (hd : doneOf (actors ix) ((Array.replicate l.toArray.size false).setIfInBounds i true) = 0)
    (hok2 : okOrd l.toArray (actors iy) iy 0 ((Array.replicate l.toArray.size false).setIfInBounds j true) = true) (hd2 : doneOf (actors iy) ((Array.replicate l.toArray.size false).setIfInBounds j true) = 0)
    (hs : Region.noSelect l.toArray = true) (hoi : l.toArray[i]? = some oi) (hoj : l.toArray[j]? = some oj)
    (hij : wpList P l.toArray (Exit.then (fun a1 w1 => wpQs P l (fun e a' w' => e = .normal ∧ ∃ v0 v1, a' = F a v0 v1 ∧ R v0 v1 w') (fun _ _ => True) (ix.map fun p => (l.getD p.1 default, p.2)) 0 a1 w1) (fun e a' w' => e = .normal ∧ ∃ v0 v1, a' = F a v0 v1 ∧ R v0 v1 w')) [oi] a w.drew)
    (hji : wpList P l.toArray (Exit.then (fun a1 w1 => wpQs P l (fun e a' w' => e = .normal ∧ ∃ v0 v1, a' = F a v0 v1 ∧ R v0 v1 w') (fun _ _ => True) (iy.map fun p => (l.getD p.1 default, p.2)) 0 a1 w1) (fun e a' w' => e = .normal ∧ ∃ v0 v1, a' = F a v0 v1 ∧ R v0 v1 w')) [oj] a w.drew)
    (H : ∀ v0 v1 w', R v0 v1 w' → Q .normal (F a v0 v1) w') : (Code.region id l.toArray true).wp P Q a w := by
  refine Code.wp_mono (Q := fun e a' w' => e = .normal ∧ ∃ v0 v1, a' = F a v0 v1 ∧ R v0 v1 w') ?_ ?_
  · rintro e a' w' ⟨rfl, v0, v1, rfl, hR⟩
    exact H v0 v1 w' hR
  refine wp_region_any hm ?_
  have hQ : ∀ c (b : Act) (t : Tmp) (v : Value) (w : World), (fun (e : Exit) (a' : Act) (w' : World) => e = .normal ∧ ∃ v0 v1, a' = F a v0 v1 ∧ R v0 v1 w') (.panic c) (Act.put b (some t) v) w → (fun (e : Exit) (a' : Act) (w' : World) => e = .normal ∧ ∃ v0 v1, a' = F a v0 v1 ∧ R v0 v1 w') (.panic c) b w := fun c b t v w h => by cases h.1
  generalize Array.replicate l.toArray.size false = listed at *
  have e1 : wpAny P .any l.toArray (fun e a' w' => e = .normal ∧ ∃ v0 v1, a' = F a v0 v1 ∧ R v0 v1 w') (ix.length + 1) listed a { w with drawn := w.drawn + 1 } := by
    refine ⟨fun h => (by rw [h0] at h; cases h), fun k hk => ?_⟩
    rw [h0] at hk
    have hk' : k = i ∨ k = j := by simpa using hk
    rcases hk' with rfl | rfl
    · exact wpOp_mono (fun a1 w1 hh => wpAny_of_T (es := actors ix) (S := fun _ _ => True) _ _ _ _ (wpAnyT_of_qs (actors ix) hs hQ ix 0 _ _ _ hok trivial hd hh)) (wpOp_of_list hoi hij)
    · have e2 : ix.length = iy.length := by omega
      rw [e2]
      exact wpOp_mono (fun a1 w1 hh => wpAny_of_T (es := actors iy) (S := fun _ _ => True) _ _ _ _ (wpAnyT_of_qs (actors iy) hs hQ iy 0 _ _ _ hok2 trivial hd2 hh)) (wpOp_of_list hoj hji)
  rw [hsz]
  exact e1
end
/-- Two rows of noughts, made in either order. -/
def TwoRows (n m : Nat) (w : World) (v0 v1 : Value) (w' : World) : Prop :=
  ∃ g0 g1, v0 = .slice (some ⟨g0, 0, none⟩) n n ∧ v1 = .slice (some ⟨g1, 0, none⟩) m m ∧ g0 ≠ g1 ∧ w'.ownsRow w.heap.size 3 1 (.slice (some ⟨g0, 0, none⟩) n n) n (List.replicate n (.int .i64 0)) ∧ w'.ownsRow w.heap.size 3 1 (.slice (some ⟨g1, 0, none⟩) m m) m (List.replicate m (.int .i64 0)) ∧ Below w.heap.size w w'
theorem TwoRows.swap {n m : Nat} {w w' : World} {v0 v1 : Value} (h : TwoRows n m w v0 v1 w') : TwoRows m n w v1 v0 w' := by
  obtain ⟨g0, g1, e0, e1, hne, h0, h1, hb⟩ := h
  exact ⟨g1, g0, e1, e0, Ne.symm hne, h1, h0, hb⟩
theorem two_rows {n m : Nat} {w w1 w2 : World} (h1 : w1.ownsRow w.heap.size 3 1 (.slice (some ⟨w.heap.size, 0, none⟩) n n) n (List.replicate n (.int .i64 0))) (h2 : w2.ownsRow w.heap.size 3 1 (.slice (some ⟨w1.heap.size, 0, none⟩) m m) m (List.replicate m (.int .i64 0)))
    (hg : w1.grownBy w2 none) (hb : Below w.heap.size w w1) : TwoRows n m w (.slice (some ⟨w.heap.size, 0, none⟩) n n) (.slice (some ⟨w1.heap.size, 0, none⟩) m m) w2 := by
  have hlt : w.heap.size < w1.heap.size := (h1.lt _ rfl).2
  exact ⟨_, _, rfl, rfl, by omega, h1.kept hg (.inr (by simp [Value.ownBlock])), h2, hb.grown hg hb.size (fun k hk => by cases hk)⟩
end Go.Proofs.YthmcdohndckniaaGreatDoor
namespace Go.Proofs.YthmcdohndckniaaGreatDoor
open Go.RowKit
set_option linter.unusedVariables false

/-- What hands back bits as bytes. -/
def PackPost (bt : List Int) (w : World) (e : Ending) (w' : World) : Prop :=
  ∃ A c, e = .returned (.slice A (packB bt).length c) ∧ (packB bt).length ≤ c ∧ w'.ownsRow w.heap.size 5 1 (.slice A (packB bt).length c) (packB bt).length ((packB bt).map (Value.int .u8)) ∧ Below w.heap.size w w'
theorem pack_of {bt : List Int} {w w1 w' : World} {e : Ending} (h01 : Bit01 bt) (h : BytesPost bt w1 e w') (hb : Below w.heap.size w w1) : PackPost bt w e w' := by
  obtain ⟨A, c, bs, rfl, ho, hB, hl, hn, hb2⟩ := h
  have e := pack_is hB h01 hl hn
  subst e
  have hc : (packB bt).length ≤ c := by
    obtain ⟨A', c', hv, hc⟩ := own_slice ho
    injection hv with _ _ hv
    omega
  exact ⟨A, c, rfl, hc, ⟨ho.1, ho.2.imp id fun ⟨g, cap, cur, e, a, r⟩ => ⟨g, cap, cur, e, Nat.le_trans hb.size a, r⟩⟩, hb.trans (hb2.mono hb.size)⟩
theorem compl_num (n : Nat) (h : n < 65536) : bits .and .u32 (bits .xor .u32 IntKind.u32.max (n : Int)) 65535 = ((65535 - n : Nat) : Int) := by
  have h1 : (BitVec.ofInt 32 (n : Int)).toNat = n := by
    rw [BitVec.ofInt_natCast, BitVec.toNat_ofNat]; exact Nat.mod_eq_of_lt (by omega)
  have h0 : (BitVec.ofInt 32 IntKind.u32.max).toNat = 4294967295 := by decide
  have hx : 4294967295 ^^^ n < 2 ^ 32 := Nat.xor_lt_two_pow (by omega) (by omega)
  have e1 : bits .xor .u32 IntKind.u32.max (n : Int) = ((4294967295 ^^^ n : Nat) : Int) := by
    show IntKind.u32.wrap (((BitVec.ofInt 32 IntKind.u32.max) ^^^ (BitVec.ofInt 32 (n : Int))).toNat : Int) = _
    rw [BitVec.toNat_xor, h1, h0, IntKind.wrap_u32]
    omega
  have hm : (4294967295 ^^^ n) % 2 ^ 16 = 65535 - n := by
    rw [Nat.xor_mod_two_pow, Nat.mod_eq_of_lt (show n < 2 ^ 16 by omega), show 4294967295 % 2 ^ 16 = 65535 by decide, Nat.xor_comm]
    exact xor_turn n h
  rw [e1]
  generalize 4294967295 ^^^ n = y at *
  have h2 : (BitVec.ofInt 32 (y : Int)).toNat = y := by
    rw [BitVec.ofInt_natCast, BitVec.toNat_ofNat]; exact Nat.mod_eq_of_lt (by omega)
  have h3 : (BitVec.ofInt 32 65535).toNat = 2 ^ 16 - 1 := by decide
  show IntKind.u32.wrap (((BitVec.ofInt 32 (y : Int)) &&& (BitVec.ofInt 32 65535)).toNat : Int) = _
  rw [BitVec.toNat_and, h2, h3, Nat.and_two_pow_sub_one_eq_mod, hm, IntKind.wrap_u32]
  omega
/-- The blocks so far, and what is left. -/
def PlnI (b : List Int) (A : Option Addr) (n c g g2 : Nat) (W : World) (k : Nat) (sv lv : Value) (wr : World) : Prop :=
  ∃ (p : Nat) (A' : Option Addr) (c' : Nat) (bt : List Int) (own : Option Nat), p ≤ n ∧ sv = .slice A' (n - p) c' ∧ n - p ≤ c' ∧ RdI .u8 W A' (n - p) (b.drop p) ∧ WrOk wr g own bt ∧ Lo W.heap.size own ∧ Blk wr g2 70 #[.pointer (some ⟨g, 0, none⟩)] ∧ Below W.heap.size W wr ∧ bt.length % 8 = 0 ∧ bt.length ≤ 600000 * (3 - k) ∧ k ≤ 2 ∧
    ((lv = .bool true ∧ bt = plainB b) ∨ (lv = .bool false ∧ bt ++ plainB (b.drop p) = plainB b ∧ (n - p) / 65536 < k))
theorem pln_end {b : List Int} {A X : Option Addr} {n c g g2 k c2 : Nat} {W wr : World} {own : Option Nat} (hbl : b.length = n) (hn : n ≤ 65536) (hw : WrOk wr g own (plainB b)) (hlo : Lo W.heap.size own) (hk : Blk wr g2 70 #[.pointer (some ⟨g, 0, none⟩)]) (hb : Below W.heap.size W wr) (hk1 : k ≤ 1) : PlnI b A n c g g2 W k (.slice X 0 c2) (.bool true) wr := by
  have h1 := plainB_len (b := b) (by omega)
  refine ⟨n, X, c2, plainB b, own, Nat.le_refl _, by rw [Nat.sub_self], by omega, ⟨by rw [List.length_drop]; omega, fun h => by omega⟩, hw, hlo, hk, hb, by omega, ?_, by omega, .inl ⟨rfl, rfl⟩⟩
  have : 1200000 ≤ 600000 * (3 - k) := by omega
  omega
theorem pln_next {b bt : List Int} {A : Option Addr} {n c g g2 k c' p p' bb o' n1 : Nat} {W wr : World} {own : Option Nat} (hbl : b.length = n) (hn : n ≤ 65536) (hp : n - p = 65536) (hp' : p' = p + 65535) (hn1 : n1 = n - p') (hpc : n - p ≤ c') (hr : RdI .u8 W (some ⟨bb, o' + 65535, none⟩) (n - p - 65535) ((b.drop p).drop 65535))
    (hw : WrOk wr g own bt) (hlo : Lo W.heap.size own) (hk : Blk wr g2 70 #[.pointer (some ⟨g, 0, none⟩)]) (hb : Below W.heap.size W wr) (hk1 : k = 1) (hm : bt.length % 8 = 0 ∧ bt.length ≤ 1200000) (hbt : bt ++ plainB (b.drop p') = plainB b) : PlnI b A n c g g2 W k (.slice (some ⟨bb, o' + 65535, none⟩) n1 (c' - 65535)) (.bool false) wr := by
  subst hk1 hn1
  refine ⟨p', some ⟨bb, o' + 65535, none⟩, c' - 65535, bt, own, by omega, rfl, by omega, ?_, hw, hlo, hk, hb, hm.1, by omega, by omega, .inr ⟨rfl, hbt, by omega⟩⟩
  rw [List.drop_drop] at hr
  rw [hp', show n - (p + 65535) = n - p - 65535 by omega]
  exact hr
def ByI (bs : List Int) (bt : List Int) (g g2 : Nat) (own : Option Nat) (W : World) (k : Nat) (iv : Value) (wr : World) : Prop :=
  ∃ (i : Nat) (own' : Option Nat), iv = .int .i64 (i : Int) ∧ i + k = bs.length ∧ WrOk wr g own' (bt ++ byB (bs.take i)) ∧ WrStep W wr g own own'
set_option maxHeartbeats 1600000 in
set_option maxRecDepth 100000 in
theorem plain_any (b : List Int) (A : Option Addr) (n c : Nat) (w : World) (hr : RdI .u8 w A n b) (hB : ∀ z ∈ b, 0 ≤ z ∧ z < 256) (hn : n ≤ 65536) (hc : n ≤ c) :
    Calls Tryz.prog 14 #[.slice A n c] w (PackPost (plainB b) w) := by
  have HR := Lib.hid hr
  have HBy := Lib.hid hB
  have hbl : b.length = n := hr.1
  clear hr hB
  go_enter Tryz.func14, Tryz.ntmps14
  go_wp2_with fail
  refine (newWriter_any w).mono ?_
  rintro ev w1 ⟨g, rfl, hg, hw, hb⟩
  have HW1 := Lib.hid hw
  have B1 := Lib.hid hb
  clear hw hb
  go_wp2
  obtain ⟨w2, hw2⟩ : ∃ w2, w2 = w1.alloc (.cells #[.pointer (some ⟨g, 0, none⟩)] 70) := ⟨_, rfl⟩
  have L2 := Lib.hid (show Below w1.heap.size w1 w2 by rw [hw2]; exact (Below.refl _ _).alloc (Nat.le_refl _) _)
  have K2 := Lib.hid (show Blk w2 w1.heap.size 70 #[.pointer (some ⟨g, 0, none⟩)] by rw [hw2]; exact Blk.made _ _ _)
  have HW2 := Lib.hid (HW1.out.below L2.out)
  have B2 := Lib.hid (show Below w.heap.size w w2 from B1.out.trans (L2.out.mono B1.out.size))
  rw [← hw2]
  clear hw2
  go_loopg [0, 4] 2 (PlnI b A n c g w1.heap.size w)
  case atStart => exact ⟨0, A, c, [], none, by omega, rfl, by omega, by simpa using HR.out, HW2.out, (fun j hj => by cases hj), K2.out, B2.out, rfl, by simp, by omega, .inr ⟨rfl, by simp, by omega⟩⟩
  case round =>
    clear HW2 K2 B2 L2 HW1 B1
    obtain ⟨p, A', c', bt, own, hp, rfl, hpc, hrd, hwk, hlo, hk2, hbw, hm8, hbl8, hgk2, hlast⟩ := hrel
    have m0 := hk2.cell (i := 0) rfl
    have HRd := Lib.hid hrd
    have HW := Lib.hid hwk
    have HLo := Lib.hid hlo
    have K2 := Lib.hid hk2
    have BW := Lib.hid hbw
    have HM8 := Lib.hid hm8
    clear hrd hwk hlo hk2 hbw hm8
    rcases hlast with ⟨rfl, hbt⟩ | ⟨rfl, hbt, hlt⟩
    · have HBT := Lib.hid hbt
      clear hbt
      go_wp2_with fail
      refine (wbytes_any bt g own wr HW.out (by omega)).mono ?_
      intro ev w2 hp
      have hpp := pack_of (bt := bt) HW.out.bit01 hp BW.out
      rw [HBT.out] at hpp
      obtain ⟨A2, c2, rfl, hc2, ho2, hb2⟩ := hpp
      go_wp2
      go_ret
      exact ⟨A2, c2, rfl, hc2, ho2, hb2⟩
    · have HBT := Lib.hid hbt
      clear hbt
      have hbl9 : bt.length ≤ 1800000 := by omega
      obtain ⟨f0, rfl⟩ : ∃ f0, gk = f0 + 1 := ⟨gk - 1, by omega⟩
      have hrl : (b.drop p).length = n - p := by rw [List.length_drop]; omega
      by_cases hsm : n - p ≤ 65535
      · have hsmI : ¬ (65535 : Int) < ((n - p : Nat) : Int) := by omega
        have hsmD : decide ((65535 : Int) < ((n - p : Nat) : Int)) = false := by simpa using hsmI
        have HPl := Lib.hid (show plainB (b.drop p) = stoB 1 (b.drop p) by unfold plainB; rw [if_pos (by omega)])
        go_wp2_with fail
        refine (put_any bt g own 1 3 wr HW.out (by omega) (by omega) (by omega)).mono ?_
        rintro ev w3 ⟨rfl, own3, hw3, st3⟩
        have m3 := (st3.blk HW.out K2.out (by decide) (by decide)).cell (i := 0) rfl
        have HW3 := Lib.hid hw3
        have S3 := Lib.hid st3
        have hl3 : (bt ++ bitsL 1 3).length = bt.length + 3 := by rw [List.length_append, bitsL_len]
        clear hw3 st3 m0
        go_wp2_with fail
        refine (walign_any (bt ++ bitsL 1 3) g own3 w3 HW3.out (by omega)).mono ?_
        rintro ev w4 ⟨rfl, own4, hw4, st4⟩
        have S4 := Lib.hid (S3.out.trans st4)
        have m4 := (S4.out.blk HW.out K2.out (by decide) (by decide)).cell (i := 0) rfl
        rw [hl3, show (8 - (bt.length + 3) % 8) % 8 = 5 by have := HM8.out; omega] at hw4
        have hl4 : (bt ++ bitsL 1 3 ++ List.replicate 5 0).length = bt.length + 8 := by rw [List.length_append, hl3, List.length_replicate]
        have HW4 := Lib.hid hw4
        clear hw4 st4 m3 S3
        go_wp2_with fail
        refine (put_any (bt ++ bitsL 1 3 ++ List.replicate 5 0) g own4 (n - p) 16 w4 HW4.out (by omega) (by omega) (by omega)).mono ?_
        rintro ev w5 ⟨rfl, own5, hw5, st5⟩
        have S5 := Lib.hid (S4.out.trans st5)
        have m5 := (S5.out.blk HW.out K2.out (by decide) (by decide)).cell (i := 0) rfl
        have hl5 : (bt ++ bitsL 1 3 ++ List.replicate 5 0 ++ bitsL (n - p) 16).length = bt.length + 24 := by rw [List.length_append, hl4, bitsL_len]
        have HW5 := Lib.hid hw5
        clear hw5 st5 m4 S4
        go_wp2_with fail
        rw [compl_num (n - p) (by omega)]
        refine (put_any (bt ++ bitsL 1 3 ++ List.replicate 5 0 ++ bitsL (n - p) 16) g own5 (65535 - (n - p)) 16 w5 HW5.out (by omega) (by omega) (by omega)).mono ?_
        rintro ev w6 ⟨rfl, own6, hw6, st6⟩
        have S6 := Lib.hid (S5.out.trans st6)
        have K6 := Lib.hid (S6.out.blk HW.out K2.out (by decide) (by decide))
        have hl6 : (bt ++ bitsL 1 3 ++ List.replicate 5 0 ++ bitsL (n - p) 16 ++ bitsL (65535 - (n - p)) 16).length = bt.length + 40 := by rw [List.length_append, hl5, bitsL_len]
        have HW6 := Lib.hid hw6
        have B6 := Lib.hid (show Below w.heap.size w w6 from BW.out.trans (S6.out.below hg HLo.out BW.out.size))
        have LO6 := Lib.hid (S6.out.lo HLo.out BW.out.size)
        clear hw6 st6 m5 S5
        have HR6 := Lib.hid (show bt ++ bitsL 1 3 ++ List.replicate 5 0 ++ bitsL (n - p) 16 ++ bitsL (65535 - (n - p)) 16 ++ byB (b.drop p) = plainB b by
          rw [← HBT.out, HPl.out]
          unfold stoB
          rw [hrl]
          simp only [List.append_assoc])
        generalize bt ++ bitsL 1 3 ++ List.replicate 5 0 ++ bitsL (n - p) 16 ++ bitsL (65535 - (n - p)) 16 = bt6 at *
        go_wp2
        go_loopg [44] (n - p) (ByI (b.drop p) bt6 g w1.heap.size own6 w6)
        case atStart => exact ⟨0, own6, rfl, by omega, by simpa [byB] using HW6.out, WrStep.refl _ _ _⟩
        case round =>
          obtain ⟨i, own7, rfl, hi, hw7, st7⟩ := hrel
          have m7 := (st7.blk HW6.out K6.out (by decide) (by decide)).cell (i := 0) rfl
          have HW7 := Lib.hid hw7
          have S7 := Lib.hid st7
          have B7 := Lib.hid (show Below w.heap.size w wr from B6.out.trans (st7.below hg LO6.out B6.out.size))
          have hl7 : (bt6 ++ byB ((b.drop p).take i)).length ≤ 3000000 := by
            rw [List.length_append, byB_len, List.length_take]
            omega
          clear hw7 st7
          by_cases hin : i < n - p
          · have hinI : (i : Int) < ((n - p : Nat) : Int) := by omega
            obtain ⟨bb, o', rfl, hblt, hcell⟩ := HRd.out.2 (by omega)
            have x0 := (World.cell?_of_block (a := ⟨bb, o' + i, none⟩) (B7.out.block bb hblt)).trans (hcell i hin)
            have hmem : (b.drop p).getD i 0 ∈ b := by
              have hlt2 : i < (b.drop p).length := by omega
              rw [List.getD_eq_getElem?_getD, List.getElem?_eq_getElem hlt2]
              exact List.mem_of_mem_drop (List.getElem_mem hlt2)
            have hz := HBy.out ((b.drop p).getD i 0) hmem
            obtain ⟨z, hz'⟩ : ∃ z : Nat, (b.drop p).getD i 0 = (z : Int) := ⟨((b.drop p).getD i 0).toNat, by omega⟩
            rw [hz'] at x0 hz
            have HZ := Lib.hid hz'
            have hz2 : z < 256 := by omega
            clear hcell hz' hz hmem
            go_wp2_with fail
            refine (put_any (bt6 ++ byB ((b.drop p).take i)) g own7 z 8 wr HW7.out (by omega) (by omega) (by omega)).mono ?_
            rintro ev w8 ⟨rfl, own8, hw8, st8⟩
            have HW8 := Lib.hid hw8
            have S8 := Lib.hid (S7.out.trans st8)
            clear hw8 st8
            go_wp2
            go_roundg (gk - 1)
            case measure => omega
            case rel =>
              refine ⟨i + 1, own8, by go_num, by omega, ?_, S8.out⟩
              have h2 := HW8.out
              rw [take_snoc (b.drop p) i (by omega), HZ.out]
              unfold byB at h2 ⊢
              rw [List.flatMap_append, ← List.append_assoc]
              simpa using h2
          · obtain rfl : i = n - p := by omega
            have hw8 := HW7.out
            rw [List.take_of_length_le (by omega), HR6.out] at hw8
            have K8 := Lib.hid (S7.out.blk HW6.out K6.out (by decide) (by decide))
            have LO8 := Lib.hid (S7.out.lo LO6.out B6.out.size)
            have HW8 := Lib.hid hw8
            clear hw8 HW7
            go_wp2
            all_goals
              go_roundg f0
              case measure => omega
              case rel =>
                exact pln_end hbl hn HW8.out LO8.out K8.out B7.out (by omega)
      · have hnp : n - p = 65536 := by omega
        have hsmI : (65535 : Int) < ((n - p : Nat) : Int) := by omega
        have hsmD : decide ((65535 : Int) < ((n - p : Nat) : Int)) = true := by simpa using hsmI
        have HPl := Lib.hid (show plainB (b.drop p) = stoB 0 ((b.drop p).take 65535) ++ plainB (b.drop (p + 65535)) by
          have e2 : plainB (b.drop (p + 65535)) = stoB 1 (b.drop (p + 65535)) := by unfold plainB; rw [if_pos (by rw [List.length_drop]; omega)]
          rw [e2]
          conv => lhs; unfold plainB
          rw [if_neg (by omega), List.drop_drop])
        go_wp2_with fail
        refine (put_any bt g own 0 3 wr HW.out (by omega) (by omega) (by omega)).mono ?_
        rintro ev w3 ⟨rfl, own3, hw3, st3⟩
        have m3 := (st3.blk HW.out K2.out (by decide) (by decide)).cell (i := 0) rfl
        have HW3 := Lib.hid hw3
        have S3 := Lib.hid st3
        have hl3 : (bt ++ bitsL 0 3).length = bt.length + 3 := by rw [List.length_append, bitsL_len]
        clear hw3 st3 m0
        go_wp2_with fail
        refine (walign_any (bt ++ bitsL 0 3) g own3 w3 HW3.out (by omega)).mono ?_
        rintro ev w4 ⟨rfl, own4, hw4, st4⟩
        have S4 := Lib.hid (S3.out.trans st4)
        have m4 := (S4.out.blk HW.out K2.out (by decide) (by decide)).cell (i := 0) rfl
        rw [hl3, show (8 - (bt.length + 3) % 8) % 8 = 5 by have := HM8.out; omega] at hw4
        have hl4 : (bt ++ bitsL 0 3 ++ List.replicate 5 0).length = bt.length + 8 := by rw [List.length_append, hl3, List.length_replicate]
        have HW4 := Lib.hid hw4
        clear hw4 st4 m3 S3
        go_wp2_with fail
        refine (put_any (bt ++ bitsL 0 3 ++ List.replicate 5 0) g own4 65535 16 w4 HW4.out (by omega) (by omega) (by omega)).mono ?_
        rintro ev w5 ⟨rfl, own5, hw5, st5⟩
        have S5 := Lib.hid (S4.out.trans st5)
        have m5 := (S5.out.blk HW.out K2.out (by decide) (by decide)).cell (i := 0) rfl
        have hl5 : (bt ++ bitsL 0 3 ++ List.replicate 5 0 ++ bitsL 65535 16).length = bt.length + 24 := by rw [List.length_append, hl4, bitsL_len]
        have HW5 := Lib.hid hw5
        clear hw5 st5 m4 S4
        go_wp2_with fail
        rw [show bits .and .u32 (bits .xor .u32 IntKind.u32.max 65535) 65535 = ((0 : Nat) : Int) from compl_num 65535 (by omega)]
        refine (put_any (bt ++ bitsL 0 3 ++ List.replicate 5 0 ++ bitsL 65535 16) g own5 0 16 w5 HW5.out (by omega) (by omega) (by omega)).mono ?_
        rintro ev w6 ⟨rfl, own6, hw6, st6⟩
        have S6 := Lib.hid (S5.out.trans st6)
        have K6 := Lib.hid (S6.out.blk HW.out K2.out (by decide) (by decide))
        have hl6 : (bt ++ bitsL 0 3 ++ List.replicate 5 0 ++ bitsL 65535 16 ++ bitsL 0 16).length = bt.length + 40 := by rw [List.length_append, hl5, bitsL_len]
        have HW6 := Lib.hid hw6
        have B6 := Lib.hid (show Below w.heap.size w w6 from BW.out.trans (S6.out.below hg HLo.out BW.out.size))
        have LO6 := Lib.hid (S6.out.lo HLo.out BW.out.size)
        clear hw6 st6 m5 S5
        have hrl2 : ((b.drop p).take 65535).length = 65535 := by rw [List.length_take]; omega
        have HR6 := Lib.hid (show bt ++ bitsL 0 3 ++ List.replicate 5 0 ++ bitsL 65535 16 ++ bitsL 0 16 ++ byB ((b.drop p).take 65535) ++ plainB (b.drop (p + 65535)) = plainB b by
          rw [← HBT.out, HPl.out]
          conv => rhs; unfold stoB
          rw [hrl2]
          simp only [List.append_assoc])
        have HM6 := Lib.hid (show (bt ++ bitsL 0 3 ++ List.replicate 5 0 ++ bitsL 65535 16 ++ bitsL 0 16).length % 8 = 0 by rw [hl6]; have := HM8.out; omega)
        generalize bt ++ bitsL 0 3 ++ List.replicate 5 0 ++ bitsL 65535 16 ++ bitsL 0 16 = bt6 at *
        go_wp2
        have hrl3 : 0 + 65535 = ((b.drop p).take 65535).length := by rw [hrl2]
        go_loopg [44] 65535 (ByI ((b.drop p).take 65535) bt6 g w1.heap.size own6 w6)
        case atStart => exact ⟨0, own6, rfl, hrl3, by simpa [byB] using HW6.out, WrStep.refl _ _ _⟩
        case round =>
          obtain ⟨i, own7, rfl, hi, hw7, st7⟩ := hrel
          have m7 := (st7.blk HW6.out K6.out (by decide) (by decide)).cell (i := 0) rfl
          have HW7 := Lib.hid hw7
          have S7 := Lib.hid st7
          have B7 := Lib.hid (show Below w.heap.size w wr from B6.out.trans (st7.below hg LO6.out B6.out.size))
          have hl7 : (bt6 ++ byB (((b.drop p).take 65535).take i)).length ≤ 3000000 := by
            rw [List.length_append, byB_len, List.length_take]
            omega
          clear hw7 st7
          by_cases hin : i < 65535
          · have hinI : (i : Int) < 65535 := by omega
            obtain ⟨bb, o', rfl, hblt, hcell⟩ := HRd.out.2 (by omega)
            have x0 := (World.cell?_of_block (a := ⟨bb, o' + i, none⟩) (B7.out.block bb hblt)).trans (hcell i (by omega))
            have heq : ((b.drop p).take 65535).getD i 0 = (b.drop p).getD i 0 := by
              simp only [List.getD_eq_getElem?_getD]
              rw [List.getElem?_take_of_lt hin]
            have hmem : (b.drop p).getD i 0 ∈ b := by
              have hlt2 : i < (b.drop p).length := by omega
              rw [List.getD_eq_getElem?_getD, List.getElem?_eq_getElem hlt2]
              exact List.mem_of_mem_drop (List.getElem_mem hlt2)
            have hz := HBy.out ((b.drop p).getD i 0) hmem
            obtain ⟨z, hz'⟩ : ∃ z : Nat, (b.drop p).getD i 0 = (z : Int) := ⟨((b.drop p).getD i 0).toNat, by omega⟩
            rw [hz'] at x0 hz heq
            have HZ := Lib.hid heq
            have hz2 : z < 256 := by omega
            clear hcell hz' hz hmem heq
            go_wp2_with fail
            refine (put_any (bt6 ++ byB (((b.drop p).take 65535).take i)) g own7 z 8 wr HW7.out (by omega) (by omega) (by omega)).mono ?_
            rintro ev w8 ⟨rfl, own8, hw8, st8⟩
            have HW8 := Lib.hid hw8
            have S8 := Lib.hid (S7.out.trans st8)
            clear hw8 st8
            go_wp2
            go_roundg (gk - 1)
            case measure => omega
            case rel =>
              refine ⟨i + 1, own8, by go_num, by omega, ?_, S8.out⟩
              have h2 := HW8.out
              rw [take_snoc ((b.drop p).take 65535) i (by omega), HZ.out]
              unfold byB at h2 ⊢
              rw [List.flatMap_append, ← List.append_assoc]
              simpa using h2
          · obtain rfl : i = 65535 := by omega
            have hw8 := HW7.out
            rw [List.take_of_length_le (l := (b.drop p).take 65535) (by omega)] at hw8
            have K8 := Lib.hid (S7.out.blk HW6.out K6.out (by decide) (by decide))
            have LO8 := Lib.hid (S7.out.lo LO6.out B6.out.size)
            have HW8 := Lib.hid hw8
            clear hw8 HW7
            obtain ⟨bb, o', rfl, hblt, hcell⟩ := HRd.out.2 (by omega)
            have hrf := rd_from HRd.out 65535 (by omega)
            have HRF := Lib.hid hrf
            clear hcell hrf
            go_wp2
            go_roundg f0
            case measure => omega
            case rel =>
              refine pln_next (p := p) (p' := p + 65535) (o' := o') (n1 := _) hbl hn (by omega) (by omega) (by omega) hpc HRF.out HW8.out LO8.out K8.out B7.out ?_ ?_ HR6.out
              · omega
              · rw [List.length_append, byB_len, hrl2]
                have h8 := HM6.out
                have hk6 : bt6.length ≤ 600040 := by omega
                generalize bt6.length = x at *
                constructor
                · omega
                · omega
end Go.Proofs.YthmcdohndckniaaGreatDoor
namespace Go.Proofs.YthmcdohndckniaaGreatDoor
open Go.RowKit
set_option linter.unusedVariables false
set_option linter.unusedSimpArgs false

def fxF (j : Nat) : Int := if j < 144 ∨ 280 ≤ j then 8 else if j < 256 then 9 else 7
/-- A row of which the first places are filled. -/
def preR (N : Nat) (f : Nat → Int) (i : Nat) : List Int := (List.range N).map fun j => if j < i then f j else 0
theorem preR_len (N : Nat) (f : Nat → Int) (i : Nat) : (preR N f i).length = N := by simp [preR]
theorem preR_zero (N : Nat) (f : Nat → Int) : (preR N f 0).map (Value.int .i64) = List.replicate N (.int .i64 0) := by
  apply List.ext_getElem
  · simp [preR]
  · intro i h1 h2; simp [preR]
theorem preR_set {N : Nat} {f : Nat → Int} {i : Nat} (h : i < N) : (preR N f i).set i (f i) = preR N f (i + 1) := by
  apply List.ext_getElem
  · simp [preR]
  · intro j h1 h2
    rw [List.getElem_set]
    simp only [preR, List.getElem_map, List.getElem_range]
    by_cases hj : i = j
    · subst hj; rw [if_pos rfl, if_pos (by omega)]
    · rw [if_neg hj]
      by_cases hc : j < i
      · rw [if_pos hc, if_pos (by omega)]
      · rw [if_neg hc, if_neg (by omega)]
def fxRow (i : Nat) : List Int := preR 288 fxF i
def fxDow (i : Nat) : List Int := preR 32 (fun _ => 5) i
set_option maxRecDepth 100000 in
theorem fxRow_all : fxRow 288 = fixedL := by kernel_rfl
theorem fxDow_all : fxDow 32 = fixedD := by kernel_rfl
theorem fxRow_zero : (fxRow 0).map (Value.int .i64) = List.replicate 288 (.int .i64 0) := preR_zero 288 fxF
theorem fxDow_zero : (fxDow 0).map (Value.int .i64) = List.replicate 32 (.int .i64 0) := preR_zero 32 _
theorem fxRow_len (i : Nat) : (fxRow i).length = 288 := preR_len 288 fxF i
theorem fxDow_len (i : Nat) : (fxDow i).length = 32 := preR_len 32 _ i
theorem fxRow_set {i : Nat} (h : i < 288) : (fxRow i).set i (fxF i) = fxRow (i + 1) := preR_set h
theorem fxDow_set {i : Nat} (h : i < 32) : (fxDow i).set i 5 = fxDow (i + 1) := preR_set (f := fun _ => 5) h
def FxA (g0 g1 : Nat) (w : World) (k : Nat) (iv : Value) (wr : World) : Prop :=
  ∃ i, iv = .int .i64 ((i : Nat) : Int) ∧ i + k = 288 ∧ wr.ownsRow w.heap.size 3 1 (.slice (some ⟨g0, 0, none⟩) 288 288) 288 ((fxRow i).map (Value.int .i64)) ∧ wr.ownsRow w.heap.size 3 1 (.slice (some ⟨g1, 0, none⟩) 32 32) 32 (List.replicate 32 (.int .i64 0)) ∧ Below w.heap.size w wr
def FxB (g0 g1 : Nat) (w : World) (k : Nat) (iv : Value) (wr : World) : Prop :=
  ∃ i, iv = .int .i64 ((i : Nat) : Int) ∧ i + k = 32 ∧ wr.ownsRow w.heap.size 3 1 (.slice (some ⟨g0, 0, none⟩) 288 288) 288 (fixedL.map (Value.int .i64)) ∧ wr.ownsRow w.heap.size 3 1 (.slice (some ⟨g1, 0, none⟩) 32 32) 32 ((fxDow i).map (Value.int .i64)) ∧ Below w.heap.size w wr
set_option maxHeartbeats 3200000 in
set_option maxRecDepth 100000 in
theorem dfixed_any (l : List Pc) (A : Option Addr) (n c : Nat) (w : World) (hl : PcRow w A n c l) (hn : n ≤ 65536) (hf : ∀ p ∈ l, Fine p) (ht : DTabs w) :
    Calls Tryz.prog 16 #[.slice A n c] w (PackPost (fixB l) w) := by
  have HL := Lib.hid hl
  have HF := Lib.hid hf
  have HT := Lib.hid ht
  clear hl hf ht
  go_enter Tryz.func16, Tryz.ntmps16
  go_wp2
  refine wp_region_fork 0 1 [(2, some 1), (1, none), (3, some 1)] [(0, none), (2, some 1), (3, some 1)] (TwoRows 288 32 w) (fun a v0 v1 => ((((a.put (some 8) v0).put (some 9) v1).put (some 3) v0).put (some 4) v1)) _ _ (by kernel_rfl) rfl rfl (by kernel_rfl) (by kernel_rfl) (by kernel_rfl) (by kernel_rfl) (by kernel_rfl) (by kernel_rfl) rfl rfl ?_ ?_ ?_
  · refine mk_ints rfl (.const (.int .i64 288)) (.const (.int .i64 288)) rfl w.heap.size 288 _ _ rfl rfl rfl rfl (by omega) (Nat.le_refl _) ?_
    intro w1 ho1 hg1
    refine wpList_nil ?_
    have B1 : Below w.heap.size w w1 := (Below.refl _ _).drew.grown hg1 (Nat.le_refl _) (fun k hk => by cases hk)
    refine thenN ?_
    simp only [List.map_cons, List.map_nil, List.getD_cons_succ, List.getD_cons_zero]
    (repeat (first | (refine qs_now (v := ?_) (by rfl) ?_ ?_; rotate_left 1; (· (intro w' hS; go_simp; (try (simp only [↓IntWalk.iteOmega]; go_simp)); (try simp (disch := omega) only [IntWalk.i64_in]); try with_reducible rfl)); simp only [Act.put, List.setIfInBounds_toArray, List.set_cons_zero, List.set_cons_succ]) | (refine qs_run (v := ?_) (by rfl) ?_ ?_; rotate_left 1; (· (intro j w' hS; go_simp; (try (simp only [↓IntWalk.iteOmega]; go_simp)); (try simp (disch := omega) only [IntWalk.i64_in]); try with_reducible rfl)); simp only [Act.put, List.setIfInBounds_toArray, List.set_cons_zero, List.set_cons_succ]) | (refine qs_mid (v := ?_) (by rfl) ?_ ?_; rotate_left 1; (· (intro j w' hj1 hj2 hS; go_simp; (try (simp only [↓IntWalk.iteOmega]; go_simp)); (try simp (disch := omega) only [IntWalk.i64_in]); try with_reducible rfl)); simp only [Act.put, List.setIfInBounds_toArray, List.set_cons_zero, List.set_cons_succ]) | (refine qs_skip (by rfl) ?_; simp only [Act.put, List.setIfInBounds_toArray, List.set_cons_zero, List.set_cons_succ])))
    refine qs_act ?_
    refine mk_ints rfl (.const (.int .i64 32)) (.const (.int .i64 32)) rfl w.heap.size 32 _ _ rfl rfl rfl rfl (by omega) B1.size ?_
    intro w2 ho2 hg2
    refine wpList_nil ?_
    refine ⟨trivial, ?_⟩
    (repeat (first | (refine qs_now (v := ?_) (by rfl) ?_ ?_; rotate_left 1; (· (intro w' hS; go_simp; (try (simp only [↓IntWalk.iteOmega]; go_simp)); (try simp (disch := omega) only [IntWalk.i64_in]); try with_reducible rfl)); simp only [Act.put, List.setIfInBounds_toArray, List.set_cons_zero, List.set_cons_succ]) | (refine qs_run (v := ?_) (by rfl) ?_ ?_; rotate_left 1; (· (intro j w' hS; go_simp; (try (simp only [↓IntWalk.iteOmega]; go_simp)); (try simp (disch := omega) only [IntWalk.i64_in]); try with_reducible rfl)); simp only [Act.put, List.setIfInBounds_toArray, List.set_cons_zero, List.set_cons_succ]) | (refine qs_mid (v := ?_) (by rfl) ?_ ?_; rotate_left 1; (· (intro j w' hj1 hj2 hS; go_simp; (try (simp only [↓IntWalk.iteOmega]; go_simp)); (try simp (disch := omega) only [IntWalk.i64_in]); try with_reducible rfl)); simp only [Act.put, List.setIfInBounds_toArray, List.set_cons_zero, List.set_cons_succ]) | (refine qs_skip (by rfl) ?_; simp only [Act.put, List.setIfInBounds_toArray, List.set_cons_zero, List.set_cons_succ])))
    refine qs_nil ?_
    exact ⟨rfl, _, _, rfl, two_rows ho1 ho2 hg2 B1⟩
  · refine mk_ints rfl (.const (.int .i64 32)) (.const (.int .i64 32)) rfl w.heap.size 32 _ _ rfl rfl rfl rfl (by omega) (Nat.le_refl _) ?_
    intro w1 ho1 hg1
    refine wpList_nil ?_
    have B1 : Below w.heap.size w w1 := (Below.refl _ _).drew.grown hg1 (Nat.le_refl _) (fun k hk => by cases hk)
    refine thenN ?_
    simp only [List.map_cons, List.map_nil, List.getD_cons_succ, List.getD_cons_zero]
    refine qs_act ?_
    refine mk_ints rfl (.const (.int .i64 288)) (.const (.int .i64 288)) rfl w.heap.size 288 _ _ rfl rfl rfl rfl (by omega) B1.size ?_
    intro w2 ho2 hg2
    refine wpList_nil ?_
    refine ⟨trivial, ?_⟩
    (repeat (first | (refine qs_now (v := ?_) (by rfl) ?_ ?_; rotate_left 1; (· (intro w' hS; go_simp; (try (simp only [↓IntWalk.iteOmega]; go_simp)); (try simp (disch := omega) only [IntWalk.i64_in]); try with_reducible rfl)); simp only [Act.put, List.setIfInBounds_toArray, List.set_cons_zero, List.set_cons_succ]) | (refine qs_run (v := ?_) (by rfl) ?_ ?_; rotate_left 1; (· (intro j w' hS; go_simp; (try (simp only [↓IntWalk.iteOmega]; go_simp)); (try simp (disch := omega) only [IntWalk.i64_in]); try with_reducible rfl)); simp only [Act.put, List.setIfInBounds_toArray, List.set_cons_zero, List.set_cons_succ]) | (refine qs_mid (v := ?_) (by rfl) ?_ ?_; rotate_left 1; (· (intro j w' hj1 hj2 hS; go_simp; (try (simp only [↓IntWalk.iteOmega]; go_simp)); (try simp (disch := omega) only [IntWalk.i64_in]); try with_reducible rfl)); simp only [Act.put, List.setIfInBounds_toArray, List.set_cons_zero, List.set_cons_succ]) | (refine qs_skip (by rfl) ?_; simp only [Act.put, List.setIfInBounds_toArray, List.set_cons_zero, List.set_cons_succ])))
    refine qs_nil ?_
    exact ⟨rfl, _, _, rfl, (two_rows ho1 ho2 hg2 B1).swap⟩
  · rintro v0 v1 w2 ⟨g0, g1, rfl, rfl, hne, ho0, ho1, hb⟩
    have HO0 := Lib.hid ho0
    have HO1 := Lib.hid ho1
    have HB := Lib.hid hb
    clear ho0 ho1 hb
    go_wp2
    go_loopg [12] 288 (FxA g0 g1 w)
    case atStart => exact ⟨0, rfl, rfl, by rw [fxRow_zero]; exact HO0.out, HO1.out, HB.out⟩
    case round =>
      clear HO0 HO1 HB
      obtain ⟨i, rfl, hi, ho0, ho1, hb⟩ := hrel
      have HO0 := Lib.hid ho0
      have HO1 := Lib.hid ho1
      have HB := Lib.hid hb
      by_cases hlt : i < 288
      · have hltI : (i : Int) < 288 := by omega
        have q1 := ho0.cellAt i (by omega)
        have q2 := ho0.frozenAt i
        rw [ints_get (by rw [fxRow_len]; omega)] at q1
        clear ho0 ho1 hb
        by_cases c1 : i < 144
        · have c1I : (i : Int) < 144 := by omega
          have hv : fxF i = 8 := by unfold fxF; rw [if_pos (.inl c1)]
          go_wp2
          go_roundg (gk - 1)
          case measure => omega
          case rel =>
            have hst := HO0.out.stored i (.int .i64 8)
            refine ⟨i + 1, by go_num, by omega, ?_, HO1.out.kept hst.2 (.inr (by simp [Value.ownBlock]; omega)), HB.out.grown hst.2 HB.out.size (fun k hk => (HO0.out.lt k hk).1)⟩
            have h1 := hst.1
            have e : (fxRow i).set i 8 = fxRow (i + 1) := by rw [← hv]; exact fxRow_set hlt
            rw [← List.map_set, e] at h1
            exact h1
        by_cases c2 : 280 ≤ i
        · have c1I : ¬ (i : Int) < 144 := by omega
          have c2I : (280 : Int) ≤ (i : Int) := by omega
          have hv : fxF i = 8 := by unfold fxF; rw [if_pos (.inr c2)]
          go_wp2
          go_roundg (gk - 1)
          case measure => omega
          case rel =>
            have hst := HO0.out.stored i (.int .i64 8)
            refine ⟨i + 1, by go_num, by omega, ?_, HO1.out.kept hst.2 (.inr (by simp [Value.ownBlock]; omega)), HB.out.grown hst.2 HB.out.size (fun k hk => (HO0.out.lt k hk).1)⟩
            have h1 := hst.1
            have e : (fxRow i).set i 8 = fxRow (i + 1) := by rw [← hv]; exact fxRow_set hlt
            rw [← List.map_set, e] at h1
            exact h1
        by_cases c3 : i < 256
        · have c1I : ¬ (i : Int) < 144 := by omega
          have c2I : ¬ (280 : Int) ≤ (i : Int) := by omega
          have c3I : (i : Int) < 256 := by omega
          have hv : fxF i = 9 := by unfold fxF; rw [if_neg (by omega), if_pos c3]
          go_wp2
          go_roundg (gk - 1)
          case measure => omega
          case rel =>
            have hst := HO0.out.stored i (.int .i64 9)
            refine ⟨i + 1, by go_num, by omega, ?_, HO1.out.kept hst.2 (.inr (by simp [Value.ownBlock]; omega)), HB.out.grown hst.2 HB.out.size (fun k hk => (HO0.out.lt k hk).1)⟩
            have h1 := hst.1
            have e : (fxRow i).set i 9 = fxRow (i + 1) := by rw [← hv]; exact fxRow_set hlt
            rw [← List.map_set, e] at h1
            exact h1
        · have c1I : ¬ (i : Int) < 144 := by omega
          have c2I : ¬ (280 : Int) ≤ (i : Int) := by omega
          have c3I : ¬ (i : Int) < 256 := by omega
          have hv : fxF i = 7 := by unfold fxF; rw [if_neg (by omega), if_neg c3]
          go_wp2
          go_roundg (gk - 1)
          case measure => omega
          case rel =>
            have hst := HO0.out.stored i (.int .i64 7)
            refine ⟨i + 1, by go_num, by omega, ?_, HO1.out.kept hst.2 (.inr (by simp [Value.ownBlock]; omega)), HB.out.grown hst.2 HB.out.size (fun k hk => (HO0.out.lt k hk).1)⟩
            have h1 := hst.1
            have e : (fxRow i).set i 7 = fxRow (i + 1) := by rw [← hv]; exact fxRow_set hlt
            rw [← List.map_set, e] at h1
            exact h1
      · obtain rfl : i = 288 := by omega
        clear ho0 ho1 hb
        rw [fxRow_all] at HO0
        go_wp2
        go_loopg [37] 32 (FxB g0 g1 w)
        case atStart => exact ⟨0, rfl, rfl, HO0.out, by rw [fxDow_zero]; exact HO1.out, HB.out⟩
        case round =>
          clear HO0 HO1 HB
          obtain ⟨i, rfl, hi, ho0, ho1, hb⟩ := hrel
          have HO0 := Lib.hid ho0
          have HO1 := Lib.hid ho1
          have HB := Lib.hid hb
          by_cases hlt : i < 32
          · have hltI : (i : Int) < 32 := by omega
            have q1 := ho1.cellAt i (by omega)
            have q2 := ho1.frozenAt i
            rw [ints_get (by rw [fxDow_len]; omega)] at q1
            clear ho0 ho1 hb
            go_wp2
            go_roundg (gk - 1)
            case measure => omega
            case rel =>
              have hst := HO1.out.stored i (.int .i64 5)
              refine ⟨i + 1, by go_num, by omega, HO0.out.kept hst.2 (.inr (by simp [Value.ownBlock]; omega)), ?_, HB.out.grown hst.2 HB.out.size (fun k hk => (HO1.out.lt k hk).1)⟩
              have h1 := hst.1
              rw [← List.map_set, fxDow_set hlt] at h1
              exact h1
          · obtain rfl : i = 32 := by omega
            clear ho0 ho1 hb
            rw [fxDow_all] at HO1
            go_wp2_with fail
            refine (newWriter_any wr).mono ?_
            rintro ev w1 ⟨g, rfl, hg, hw, hb⟩
            have HW1 := Lib.hid hw
            have A1 := Lib.hid (own_below HO0.out hb)
            have A2 := Lib.hid (own_below HO1.out hb)
            have B1 := Lib.hid (show Below w.heap.size w w1 from HB.out.trans (hb.mono HB.out.size))
            have hgw : w.heap.size ≤ g := Nat.le_trans HB.out.size hg
            have hGT := HT.out.2.2.2
            clear hw hb HO0 HO1 HB hg
            go_wp2_with fail
            obtain ⟨w2, hw2⟩ : ∃ w2, w2 = w1.alloc (.cells #[.pointer (some ⟨g, 0, none⟩)] 70) := ⟨_, rfl⟩
            have L2 := Lib.hid (show Below w1.heap.size w1 w2 by rw [hw2]; exact (Below.refl _ _).alloc (Nat.le_refl _) _)
            have K2 := Lib.hid (show Blk w2 w1.heap.size 70 #[.pointer (some ⟨g, 0, none⟩)] by rw [hw2]; exact Blk.made _ _ _)
            have HW2 := Lib.hid (HW1.out.below L2.out)
            have B2 := Lib.hid (show Below w.heap.size w w2 from B1.out.trans (L2.out.mono B1.out.size))
            have C1 := Lib.hid (own_below A1.out L2.out)
            have C2 := Lib.hid (own_below A2.out L2.out)
            rw [← hw2]
            clear hw2
            refine (put_any [] g none 3 3 w2 HW2.out (by omega) (by omega) (by simp)).mono ?_
            rintro ev w3 ⟨rfl, own3, hw3, st3⟩
            have HW3 := Lib.hid hw3
            have S3 := Lib.hid st3
            have D1 := Lib.hid (st3.keeps HW2.out C1.out (by decide) (by decide))
            have D2 := Lib.hid (st3.keeps HW2.out C2.out (by decide) (by decide))
            have hlo0 : Lo w.heap.size none := fun j hj => by cases hj
            have B3 := Lib.hid (show Below w.heap.size w w3 from B2.out.trans (st3.below hgw hlo0 B2.out.size))
            have hlo3 := st3.lo hlo0 B2.out.size
            have K3 := Lib.hid (st3.blk HW2.out K2.out (by decide) (by decide))
            have m3 := K3.out.cell (i := 0) rfl
            clear hw3 st3 C1 C2 A1 A2 HW1 HW2
            go_wp2
            refine wp_region_qs (fun _ w' => w'.cell? ⟨w1.heap.size, 0, none⟩ = some (.pointer (some ⟨g, 0, none⟩))) [(0, some 2), (1, some 2), (2, some 2), (4, some 2), (3, none), (5, none), (6, none)] (by kernel_rfl) (by kernel_rfl) (by kernel_rfl) (by kernel_rfl) (by kernel_rfl) (fun _ _ _ _ _ h => h) m3 ?_
            simp only [List.map_cons, List.map_nil, List.getD_cons_succ, List.getD_cons_zero]
            (repeat (first | (refine qs_now (v := ?_) (by rfl) ?_ ?_; rotate_left 1; (· (intro w' hS; go_simp; (try (simp only [↓IntWalk.iteOmega]; go_simp)); (try simp (disch := omega) only [IntWalk.i64_in]); try with_reducible rfl)); simp only [Act.put, List.setIfInBounds_toArray, List.set_cons_zero, List.set_cons_succ]) | (refine qs_run (v := ?_) (by rfl) ?_ ?_; rotate_left 1; (· (intro j w' hS; go_simp; (try (simp only [↓IntWalk.iteOmega]; go_simp)); (try simp (disch := omega) only [IntWalk.i64_in]); try with_reducible rfl)); simp only [Act.put, List.setIfInBounds_toArray, List.set_cons_zero, List.set_cons_succ]) | (refine qs_mid (v := ?_) (by rfl) ?_ ?_; rotate_left 1; (· (intro j w' hj1 hj2 hS; go_simp; (try (simp only [↓IntWalk.iteOmega]; go_simp)); (try simp (disch := omega) only [IntWalk.i64_in]); try with_reducible rfl)); simp only [Act.put, List.setIfInBounds_toArray, List.set_cons_zero, List.set_cons_succ]) | (refine qs_skip (by rfl) ?_; simp only [Act.put, List.setIfInBounds_toArray, List.set_cons_zero, List.set_cons_succ])))
            refine qs_act ?_
            go_wp2_with fail
            have rd1 : RdI .i64 w3.drew (some ⟨g0, 0, none⟩) 288 fixedL := RdI.of_own D1.out.drew
            have cz : countsOk fixedL = true := by kernel_rfl
            have cd : countsOk fixedD = true := by kernel_rfl
            have lz : fixedL.length = 288 := by kernel_rfl
            have ld : fixedD.length = 32 := by kernel_rfl
            have CZ := Lib.hid cz
            have CD := Lib.hid cd
            refine (dmade_any fixedL (some ⟨g0, 0, none⟩) 288 288 w3.drew rd1 (by omega) cz).mono ?_
            rintro ev w4 ⟨X1, x1, rfl, hx4, hb4⟩
            have L4 := Lib.hid (show Below w3.heap.size w3 w4 from (Below.refl _ _).drew.trans hb4)
            have E1 := Lib.hid (own_below D1.out L4.out)
            have E2 := Lib.hid (own_below D2.out L4.out)
            have X4 := Lib.hid hx4
            have K4 := Lib.hid (K3.out.below L4.out K3.out.lt)
            have m4 := K4.out.cell (i := 0) rfl
            clear hx4 hb4 rd1 cz cd
            go_wp2
            refine ⟨m4, ?_⟩
            (repeat (first | (refine qs_now (v := ?_) (by rfl) ?_ ?_; rotate_left 1; (· (intro w' hS; go_simp; (try (simp only [↓IntWalk.iteOmega]; go_simp)); (try simp (disch := omega) only [IntWalk.i64_in]); try with_reducible rfl)); simp only [Act.put, List.setIfInBounds_toArray, List.set_cons_zero, List.set_cons_succ]) | (refine qs_run (v := ?_) (by rfl) ?_ ?_; rotate_left 1; (· (intro j w' hS; go_simp; (try (simp only [↓IntWalk.iteOmega]; go_simp)); (try simp (disch := omega) only [IntWalk.i64_in]); try with_reducible rfl)); simp only [Act.put, List.setIfInBounds_toArray, List.set_cons_zero, List.set_cons_succ]) | (refine qs_mid (v := ?_) (by rfl) ?_ ?_; rotate_left 1; (· (intro j w' hj1 hj2 hS; go_simp; (try (simp only [↓IntWalk.iteOmega]; go_simp)); (try simp (disch := omega) only [IntWalk.i64_in]); try with_reducible rfl)); simp only [Act.put, List.setIfInBounds_toArray, List.set_cons_zero, List.set_cons_succ]) | (refine qs_skip (by rfl) ?_; simp only [Act.put, List.setIfInBounds_toArray, List.set_cons_zero, List.set_cons_succ])))
            refine qs_act ?_
            go_wp2_with fail
            refine (dmade_any fixedD (some ⟨g1, 0, none⟩) 32 32 w4 (RdI.of_own E2.out) (by omega) CD.out).mono ?_
            rintro ev w5 ⟨X2, x2, rfl, hx5, hb5⟩
            have L5 := Lib.hid (show Below w3.heap.size w3 w5 from L4.out.trans (hb5.mono L4.out.size))
            have X5 := Lib.hid hx5
            have X45 := Lib.hid (own_below X4.out hb5)
            have G1 := Lib.hid (own_below E1.out hb5)
            have G2 := Lib.hid (own_below E2.out hb5)
            have K5 := Lib.hid (K4.out.below hb5 K4.out.lt)
            have m5 := K5.out.cell (i := 0) rfl
            have HW5 := Lib.hid (HW3.out.below L5.out)
            have B5 := Lib.hid (show Below w.heap.size w w5 from B3.out.trans (L5.out.mono B3.out.size))
            clear hx5 hb5
            go_wp2
            refine ⟨m5, ?_⟩
            refine qs_act ?_
            go_wp2_with fail
            have hg5 : 3 ≤ g := by omega
            refine (dpieces_any ([] ++ bitsL 3 3) g own3 fixedL fixedD (some ⟨g0, 0, none⟩) X1 (some ⟨g1, 0, none⟩) X2 288 288 x1 32 32 x2 l A n c w5 HW5.out ⟨ownbase G1.out (Nat.zero_le _), ownbase X45.out (Nat.zero_le _)⟩ ⟨ownbase G2.out (Nat.zero_le _), ownbase X5.out (Nat.zero_le _)⟩ CZ.out CD.out (by omega) (by omega) (HL.out.below B5.out) hn HF.out (HT.out.below B5.out) hg5 (fun j hj => by have := hlo3 j hj; omega) (by rw [List.length_append, bitsL_len]; simp)).mono ?_
            rintro ev w6 ⟨rfl, own6, hw6, st6⟩
            have K6 := Lib.hid (st6.blk HW5.out K5.out (by decide) (by decide))
            have m6 := K6.out.cell (i := 0) rfl
            have HW6 := Lib.hid hw6
            have B6 := Lib.hid (show Below w.heap.size w w6 from B5.out.trans (st6.below hgw hlo3 B5.out.size))
            clear hw6 st6
            go_wp2
            refine ⟨m6, ?_⟩
            refine qs_nil ?_
            go_wp2_with fail
            have HFx := Lib.hid (show [] ++ bitsL 3 3 ++ pcsB fixedL fixedD l = fixB l by unfold fixB; simp)
            have hlen : (fixB l).length ≤ 1000000000 := by
              unfold fixB pcsB
              have h1 := pcsB_le CZ.out CD.out (by omega) (by omega) l HF.out
              have h2 := litB_le CZ.out (s := 256) (by omega)
              have h3 := HL.out.len
              simp only [List.length_append, bitsL_len]
              omega
            have hw7 := HW6.out
            rw [HFx.out] at hw7
            refine (wbytes_any (fixB l) g own6 w6 hw7 hlen).mono ?_
            intro ev w7 hp
            obtain ⟨A7, c7, rfl, hc7, ho7, hb7⟩ := pack_of (fixB_01 l) hp B6.out
            go_wp2
            go_ret
            exact ⟨A7, c7, rfl, hc7, ho7, hb7⟩
end Go.Proofs.YthmcdohndckniaaGreatDoor
namespace Go.Proofs.YthmcdohndckniaaGreatDoor
open Go.RowKit
set_option linter.unusedVariables false
set_option linter.unusedSimpArgs false

/-- The first loop: weights of pieces. -/
def FtA (l : List Pc) (g0 g1 : Nat) (w : World) (k : Nat) (iv : Value) (wr : World) : Prop :=
  ∃ i, iv = .int .i64 ((i : Nat) : Int) ∧ i + k = l.length ∧ wr.ownsRow w.heap.size 3 1 (.slice (some ⟨g0, 0, none⟩) 286 286) 286 ((freqL (l.take i)).map (Value.int .i64)) ∧ wr.ownsRow w.heap.size 3 1 (.slice (some ⟨g1, 0, none⟩) 30 30) 30 ((freqD (l.take i)).map (Value.int .i64)) ∧ Below w.heap.size w wr
theorem PcRow.low {w w' : World} {A : Option Addr} {n c : Nat} {l : List Pc} (h : PcRow w A n c l) (hb : Below w.heap.size w w') : PcRow w' A n c l := h.below hb
theorem idxo_0 (W : World) : (Instr.index 93 (.agg (orderL.map (Value.int .i64)).toArray) (.int .i64 0)).run Tryz.prog W = .ok (.int .i64 16) W := by kernel_rfl
theorem idxo_1 (W : World) : (Instr.index 93 (.agg (orderL.map (Value.int .i64)).toArray) (.int .i64 1)).run Tryz.prog W = .ok (.int .i64 17) W := by kernel_rfl
theorem idxo_2 (W : World) : (Instr.index 93 (.agg (orderL.map (Value.int .i64)).toArray) (.int .i64 2)).run Tryz.prog W = .ok (.int .i64 18) W := by kernel_rfl
theorem idxo_3 (W : World) : (Instr.index 93 (.agg (orderL.map (Value.int .i64)).toArray) (.int .i64 3)).run Tryz.prog W = .ok (.int .i64 0) W := by kernel_rfl
theorem idxo_4 (W : World) : (Instr.index 93 (.agg (orderL.map (Value.int .i64)).toArray) (.int .i64 4)).run Tryz.prog W = .ok (.int .i64 8) W := by kernel_rfl
theorem idxo_5 (W : World) : (Instr.index 93 (.agg (orderL.map (Value.int .i64)).toArray) (.int .i64 5)).run Tryz.prog W = .ok (.int .i64 7) W := by kernel_rfl
theorem idxo_6 (W : World) : (Instr.index 93 (.agg (orderL.map (Value.int .i64)).toArray) (.int .i64 6)).run Tryz.prog W = .ok (.int .i64 9) W := by kernel_rfl
theorem idxo_7 (W : World) : (Instr.index 93 (.agg (orderL.map (Value.int .i64)).toArray) (.int .i64 7)).run Tryz.prog W = .ok (.int .i64 6) W := by kernel_rfl
theorem idxo_8 (W : World) : (Instr.index 93 (.agg (orderL.map (Value.int .i64)).toArray) (.int .i64 8)).run Tryz.prog W = .ok (.int .i64 10) W := by kernel_rfl
theorem idxo_9 (W : World) : (Instr.index 93 (.agg (orderL.map (Value.int .i64)).toArray) (.int .i64 9)).run Tryz.prog W = .ok (.int .i64 5) W := by kernel_rfl
theorem idxo_10 (W : World) : (Instr.index 93 (.agg (orderL.map (Value.int .i64)).toArray) (.int .i64 10)).run Tryz.prog W = .ok (.int .i64 11) W := by kernel_rfl
theorem idxo_11 (W : World) : (Instr.index 93 (.agg (orderL.map (Value.int .i64)).toArray) (.int .i64 11)).run Tryz.prog W = .ok (.int .i64 4) W := by kernel_rfl
theorem idxo_12 (W : World) : (Instr.index 93 (.agg (orderL.map (Value.int .i64)).toArray) (.int .i64 12)).run Tryz.prog W = .ok (.int .i64 12) W := by kernel_rfl
theorem idxo_13 (W : World) : (Instr.index 93 (.agg (orderL.map (Value.int .i64)).toArray) (.int .i64 13)).run Tryz.prog W = .ok (.int .i64 3) W := by kernel_rfl
theorem idxo_14 (W : World) : (Instr.index 93 (.agg (orderL.map (Value.int .i64)).toArray) (.int .i64 14)).run Tryz.prog W = .ok (.int .i64 13) W := by kernel_rfl
theorem idxo_15 (W : World) : (Instr.index 93 (.agg (orderL.map (Value.int .i64)).toArray) (.int .i64 15)).run Tryz.prog W = .ok (.int .i64 2) W := by kernel_rfl
theorem idxo_16 (W : World) : (Instr.index 93 (.agg (orderL.map (Value.int .i64)).toArray) (.int .i64 16)).run Tryz.prog W = .ok (.int .i64 14) W := by kernel_rfl
theorem idxo_17 (W : World) : (Instr.index 93 (.agg (orderL.map (Value.int .i64)).toArray) (.int .i64 17)).run Tryz.prog W = .ok (.int .i64 1) W := by kernel_rfl
theorem idxo_18 (W : World) : (Instr.index 93 (.agg (orderL.map (Value.int .i64)).toArray) (.int .i64 18)).run Tryz.prog W = .ok (.int .i64 15) W := by kernel_rfl
theorem idx_order (i : Nat) (hi : i < 19) (W : World) : (Instr.index 93 (.agg (orderL.map (Value.int .i64)).toArray) (.int .i64 (i : Int))).run Tryz.prog W = .ok (.int .i64 (orderL.getD i 0)) W := by
  match i, hi with
  | 0, _ => exact idxo_0 W
  | 1, _ => exact idxo_1 W
  | 2, _ => exact idxo_2 W
  | 3, _ => exact idxo_3 W
  | 4, _ => exact idxo_4 W
  | 5, _ => exact idxo_5 W
  | 6, _ => exact idxo_6 W
  | 7, _ => exact idxo_7 W
  | 8, _ => exact idxo_8 W
  | 9, _ => exact idxo_9 W
  | 10, _ => exact idxo_10 W
  | 11, _ => exact idxo_11 W
  | 12, _ => exact idxo_12 W
  | 13, _ => exact idxo_13 W
  | 14, _ => exact idxo_14 W
  | 15, _ => exact idxo_15 W
  | 16, _ => exact idxo_16 W
  | 17, _ => exact idxo_17 W
  | 18, _ => exact idxo_18 W
  | k + 19, h => exact absurd h (by omega)
theorem field_part (a b c : Int) (W : World) : (Instr.field 87 (.agg #[.int .i64 a, .int .i64 b, .int .i64 c]) 0).run Tryz.prog W = .ok (.int .i64 a) W := by kernel_rfl
theorem pts_fine : ∀ (l : List Pt) (acc : List Int), PtsOk acc l → ∀ q ∈ l, q.s < 19 ∧ q.x < 128 ∧ q.k ≤ 7
  | [], _, _, q, hq => by cases hq
  | p :: l, acc, h, q, hq => by
    rcases List.mem_cons.1 hq with rfl | hq
    · rcases h.1 with ⟨a, b, c⟩ | ⟨a, b, c, d⟩ | ⟨a, b, c⟩ | ⟨a, b, c⟩
      · exact ⟨by omega, by omega, by omega⟩
      · exact ⟨by omega, by omega, by omega⟩
      · exact ⟨by omega, by omega, by omega⟩
      · exact ⟨by omega, by omega, by omega⟩
    · exact pts_fine l _ h.2 q hq
/-- A row of parts. -/
theorem pt_at {w : World} {base : Nat} {A : Option Addr} {n c : Nat} {l : List Pt} (h : w.ownsRow base 87 3 (.slice A n c) n (l.flatMap ptcell)) (hl : l.length = n) {i : Nat} (hi : i < n) :
    ∃ gp q, A = some ⟨gp, 0, none⟩ ∧ gp < w.heap.size ∧ l[i]? = some q ∧ w.cell? ⟨gp, i * 3, none⟩ = some (.int .i64 (q.s : Int)) ∧ w.cell? ⟨gp, i * 3 + 1, none⟩ = some (.int .i64 (q.x : Int)) ∧ w.cell? ⟨gp, i * 3 + 2, none⟩ = some (.int .i64 (q.k : Int)) := by
  obtain ⟨gp, cap, hv, _, hlt⟩ := World.ownsRow.form h (by omega)
  injection hv with hA _ hc
  subst hA hc
  have hp : l[i]? = some l[i] := List.getElem?_eq_getElem (by omega)
  obtain ⟨q1, q2, q3⟩ := ptcells_get l i _ hp
  have k := World.ownsRow.cells h (g := gp) rfl
  refine ⟨gp, _, rfl, hlt, hp, ?_, ?_, ?_⟩
  · have := k _ _ q1; rwa [Addr.add_mid, Nat.zero_add] at this
  · have := k _ _ q2; rwa [Addr.add_mid, Nat.zero_add] at this
  · have := k _ _ q3; rwa [Addr.add_mid, Nat.zero_add] at this
theorem ordl_bd : ∀ i, i < 19 → 0 ≤ orderL.getD i 0 ∧ orderL.getD i 0 < 19 := by decide
/-- The third loop: short lengths in their order. -/
def FtS (ZC : List Int) (w : World) (k : Nat) (sv iv : Value) (wr : World) : Prop :=
  ∃ i, iv = .int .i64 ((i : Nat) : Int) ∧ i + k = 19 ∧ wr.ownsRow w.heap.size 3 1 sv i (((orderL.take i).map fun o => ZC.getD o.toNat 0).map (Value.int .i64)) ∧ Below w.heap.size w wr
theorem flat3_len : ∀ l : List Int, (l.flatMap fun z => bitsL z.toNat 3).length = 3 * l.length
  | [] => rfl
  | z :: l => by rw [List.flatMap_cons, List.length_append, bitsL_len, flat3_len l, List.length_cons]; omega
theorem ptsB_le {ZC : List Int} (hc : countsOk ZC = true) (hl : ZC.length = 19) : ∀ l : List Pt, (∀ q ∈ l, q.s < 19 ∧ q.x < 128 ∧ q.k ≤ 7) → (l.flatMap (ptB ZC)).length ≤ 30 * l.length
  | [], _ => Nat.le_refl _
  | q :: l, h => by
    have h1 := h q List.mem_cons_self
    have h2 := litB_le hc (s := q.s) (by omega)
    have h3 := ptsB_le hc hl l (fun x hx => h x (List.mem_cons_of_mem _ hx))
    have h4 : (ptB ZC q).length = (litB ZC q.s).length + q.k := by unfold ptB; rw [List.length_append, bitsL_len]
    rw [List.flatMap_cons, List.length_append, List.length_cons]
    omega
/-- The fourth loop: short lengths are written. -/
def FtZ (S : List Int) (bt : List Int) (g : Nat) (own : Option Nat) (W : World) (k : Nat) (iv : Value) (wr : World) : Prop :=
  ∃ (i : Nat) (own' : Option Nat), iv = .int .i64 (i : Int) ∧ i + k = S.length ∧ WrOk wr g own' (bt ++ (S.take i).flatMap (fun z => bitsL z.toNat 3)) ∧ WrStep W wr g own own'
/-- The fifth loop: parts are written. -/
def FtP (l : List Pt) (ZC : List Int) (bt : List Int) (g : Nat) (own : Option Nat) (W : World) (k : Nat) (iv : Value) (wr : World) : Prop :=
  ∃ (i : Nat) (own' : Option Nat), iv = .int .i64 (i : Int) ∧ i + k = l.length ∧ WrOk wr g own' (bt ++ (l.take i).flatMap (ptB ZC)) ∧ WrStep W wr g own own'
/-- The second loop: weights of parts. -/
def FtO (l : List Pt) (g8 : Nat) (w : World) (k : Nat) (iv : Value) (wr : World) : Prop :=
  ∃ i, iv = .int .i64 ((i : Nat) : Int) ∧ i + k = l.length ∧ wr.ownsRow w.heap.size 3 1 (.slice (some ⟨g8, 0, none⟩) 19 19) 19 ((oftenP (l.take i)).map (Value.int .i64)) ∧ Below w.heap.size w wr
theorem infoOrd : (Tryz.prog.info? 93).map (·.size) = some (orderL.map (Value.int .i64)).length := by kernel_rfl
theorem tab_range {w : World} {g : Nat} {l : List Int} (h : TabAt w g l) : w.rangeAt g 0 (l.map (Value.int .i64)) := fun j v hv => by
  rw [List.getElem?_map] at hv
  rcases Nat.lt_or_ge j l.length with hj | hj
  · rw [List.getElem?_eq_getElem hj] at hv
    have h1 := h j hj
    rw [Nat.zero_add, h1, ← hv]
    simp [hj]
  · rw [List.getElem?_eq_none hj] at hv
    cases hv
theorem symOf_lt {p : Pc} (h : Fine p) : symOf p < 286 := by
  unfold symOf
  have := lenK_le p.n
  rcases h with h | h
  · rw [if_pos h.1]; omega
  · rw [if_neg (by omega)]; omega
set_option maxHeartbeats 3200000 in
set_option maxRecDepth 100000 in
theorem dfitted_any (l : List Pc) (A : Option Addr) (n c : Nat) (w : World) (hl : PcRow w A n c l) (hn : n ≤ 65536) (hf : ∀ p ∈ l, Fine p) (ht : DTabs w) :
    Calls Tryz.prog 17 #[.slice A n c] w (PackPost (fitB l) w) := by
  have HL := Lib.hid hl
  have HF := Lib.hid hf
  have HT := Lib.hid ht
  have hln := hl.len
  have hfield := field_part
  clear hl hf ht
  go_enter Tryz.func17, Tryz.ntmps17
  go_wp2
  refine wp_region_fork 0 1 [(2, some 1), (1, none), (3, some 1)] [(0, none), (2, some 1), (3, some 1)] (TwoRows 286 30 w) (fun a v0 v1 => ((((a.put (some 24) v0).put (some 25) v1).put (some 3) v0).put (some 4) v1)) _ _ (by kernel_rfl) rfl rfl (by kernel_rfl) (by kernel_rfl) (by kernel_rfl) (by kernel_rfl) (by kernel_rfl) (by kernel_rfl) rfl rfl ?_ ?_ ?_
  · refine mk_ints rfl (.const (.int .i64 286)) (.const (.int .i64 286)) rfl w.heap.size 286 _ _ rfl rfl rfl rfl (by omega) (Nat.le_refl _) ?_
    intro w1 ho1 hg1
    refine wpList_nil ?_
    have B1 : Below w.heap.size w w1 := (Below.refl _ _).drew.grown hg1 (Nat.le_refl _) (fun k hk => by cases hk)
    refine thenN ?_
    simp only [List.map_cons, List.map_nil, List.getD_cons_succ, List.getD_cons_zero]
    (repeat (first | (refine qs_now (v := ?_) (by rfl) ?_ ?_; rotate_left 1; (· (intro w' hS; go_simp; (try (simp only [↓IntWalk.iteOmega]; go_simp)); (try simp (disch := omega) only [IntWalk.i64_in]); try with_reducible rfl)); simp only [Act.put, List.setIfInBounds_toArray, List.set_cons_zero, List.set_cons_succ]) | (refine qs_run (v := ?_) (by rfl) ?_ ?_; rotate_left 1; (· (intro j w' hS; go_simp; (try (simp only [↓IntWalk.iteOmega]; go_simp)); (try simp (disch := omega) only [IntWalk.i64_in]); try with_reducible rfl)); simp only [Act.put, List.setIfInBounds_toArray, List.set_cons_zero, List.set_cons_succ]) | (refine qs_mid (v := ?_) (by rfl) ?_ ?_; rotate_left 1; (· (intro j w' hj1 hj2 hS; go_simp; (try (simp only [↓IntWalk.iteOmega]; go_simp)); (try simp (disch := omega) only [IntWalk.i64_in]); try with_reducible rfl)); simp only [Act.put, List.setIfInBounds_toArray, List.set_cons_zero, List.set_cons_succ]) | (refine qs_skip (by rfl) ?_; simp only [Act.put, List.setIfInBounds_toArray, List.set_cons_zero, List.set_cons_succ])))
    refine qs_act ?_
    refine mk_ints rfl (.const (.int .i64 30)) (.const (.int .i64 30)) rfl w.heap.size 30 _ _ rfl rfl rfl rfl (by omega) B1.size ?_
    intro w2 ho2 hg2
    refine wpList_nil ?_
    refine ⟨trivial, ?_⟩
    (repeat (first | (refine qs_now (v := ?_) (by rfl) ?_ ?_; rotate_left 1; (· (intro w' hS; go_simp; (try (simp only [↓IntWalk.iteOmega]; go_simp)); (try simp (disch := omega) only [IntWalk.i64_in]); try with_reducible rfl)); simp only [Act.put, List.setIfInBounds_toArray, List.set_cons_zero, List.set_cons_succ]) | (refine qs_run (v := ?_) (by rfl) ?_ ?_; rotate_left 1; (· (intro j w' hS; go_simp; (try (simp only [↓IntWalk.iteOmega]; go_simp)); (try simp (disch := omega) only [IntWalk.i64_in]); try with_reducible rfl)); simp only [Act.put, List.setIfInBounds_toArray, List.set_cons_zero, List.set_cons_succ]) | (refine qs_mid (v := ?_) (by rfl) ?_ ?_; rotate_left 1; (· (intro j w' hj1 hj2 hS; go_simp; (try (simp only [↓IntWalk.iteOmega]; go_simp)); (try simp (disch := omega) only [IntWalk.i64_in]); try with_reducible rfl)); simp only [Act.put, List.setIfInBounds_toArray, List.set_cons_zero, List.set_cons_succ]) | (refine qs_skip (by rfl) ?_; simp only [Act.put, List.setIfInBounds_toArray, List.set_cons_zero, List.set_cons_succ])))
    refine qs_nil ?_
    exact ⟨rfl, _, _, rfl, two_rows ho1 ho2 hg2 B1⟩
  · refine mk_ints rfl (.const (.int .i64 30)) (.const (.int .i64 30)) rfl w.heap.size 30 _ _ rfl rfl rfl rfl (by omega) (Nat.le_refl _) ?_
    intro w1 ho1 hg1
    refine wpList_nil ?_
    have B1 : Below w.heap.size w w1 := (Below.refl _ _).drew.grown hg1 (Nat.le_refl _) (fun k hk => by cases hk)
    refine thenN ?_
    simp only [List.map_cons, List.map_nil, List.getD_cons_succ, List.getD_cons_zero]
    refine qs_act ?_
    refine mk_ints rfl (.const (.int .i64 286)) (.const (.int .i64 286)) rfl w.heap.size 286 _ _ rfl rfl rfl rfl (by omega) B1.size ?_
    intro w2 ho2 hg2
    refine wpList_nil ?_
    refine ⟨trivial, ?_⟩
    (repeat (first | (refine qs_now (v := ?_) (by rfl) ?_ ?_; rotate_left 1; (· (intro w' hS; go_simp; (try (simp only [↓IntWalk.iteOmega]; go_simp)); (try simp (disch := omega) only [IntWalk.i64_in]); try with_reducible rfl)); simp only [Act.put, List.setIfInBounds_toArray, List.set_cons_zero, List.set_cons_succ]) | (refine qs_run (v := ?_) (by rfl) ?_ ?_; rotate_left 1; (· (intro j w' hS; go_simp; (try (simp only [↓IntWalk.iteOmega]; go_simp)); (try simp (disch := omega) only [IntWalk.i64_in]); try with_reducible rfl)); simp only [Act.put, List.setIfInBounds_toArray, List.set_cons_zero, List.set_cons_succ]) | (refine qs_mid (v := ?_) (by rfl) ?_ ?_; rotate_left 1; (· (intro j w' hj1 hj2 hS; go_simp; (try (simp only [↓IntWalk.iteOmega]; go_simp)); (try simp (disch := omega) only [IntWalk.i64_in]); try with_reducible rfl)); simp only [Act.put, List.setIfInBounds_toArray, List.set_cons_zero, List.set_cons_succ]) | (refine qs_skip (by rfl) ?_; simp only [Act.put, List.setIfInBounds_toArray, List.set_cons_zero, List.set_cons_succ])))
    refine qs_nil ?_
    exact ⟨rfl, _, _, rfl, (two_rows ho1 ho2 hg2 B1).swap⟩
  · rintro v0 v1 w2 ⟨g0, g1, rfl, rfl, hne, ho0, ho1, hb⟩
    have HO1 := Lib.hid ho1
    have HB := Lib.hid hb
    have q1 := ho0.cellAt 256 (by omega)
    have q2 := ho0.frozenAt 256
    have hst := ho0.stored 256 (.int .i64 1)
    have HO0 := Lib.hid hst.1
    have HG := Lib.hid hst.2
    have q1' : w2.cell? ⟨g0, 256, none⟩ = some (.int .i64 0) := by rw [q1, List.getElem?_replicate]; rfl
    clear ho0 ho1 hb hst q1
    go_wp2
    obtain ⟨w3, hw3⟩ : ∃ w3, w3 = w2.setCell ⟨g0, 256, none⟩ (.int .i64 1) := ⟨_, rfl⟩
    rw [← hw3] at HO0 HG ⊢
    have HO1' := Lib.hid (HO1.out.kept HG.out (.inr (by simp [Value.ownBlock]; omega)))
    have HB3 := Lib.hid (HB.out.grown HG.out HB.out.size (fun k hk => by injection hk with hk; have := HO0.out.lt g0 rfl; omega))
    clear hw3 HO1 HB HG q1' q2
    go_loopg [33] n (FtA l g0 g1 w)
    case atStart =>
      refine ⟨0, rfl, by omega, ?_, ?_, HB3.out⟩
      · have h1 := HO0.out
        rw [List.take_zero, ← freqL_nil, List.map_set, List.map_replicate]
        exact h1
      · rw [List.take_zero, ← freqD_nil, List.map_replicate]
        exact HO1'.out
    case round =>
      clear HO0 HO1' HB3
      obtain ⟨i, rfl, hi, ho0, ho1, hb⟩ := hrel
      have HO0 := Lib.hid ho0
      have HO1 := Lib.hid ho1
      have HB := Lib.hid hb
      clear ho0 ho1 hb
      by_cases hlt : i < n
      · have hltI : (i : Int) < (n : Int) := by omega
        obtain ⟨gp, p, rfl, hgp, hp, p0, p1, p2⟩ := (HL.out.below HB.out).at_ hlt
        have hfp := HF.out p (List.mem_of_getElem? hp)
        have hsy := symOf_lt hfp
        have HTk := Lib.hid (take_getq hp)
        have hll : (l.take i).length ≤ 65536 := by rw [List.length_take]; omega
        have hg0 : g0 < wr.heap.size := (HO0.out.lt g0 rfl).2
        have hg1 : g1 < wr.heap.size := (HO1.out.lt g1 rfl).2
        obtain ⟨wA, hwA⟩ : ∃ wA, wA = wr.alloc (.cells #[.int .u8 (p.b : Int), .int .i64 (p.n : Int), .int .i64 (p.d : Int)] 81) := ⟨_, rfl⟩
        have LA := Lib.hid (show Below wr.heap.size wr wA by rw [hwA]; exact (Below.refl _ _).alloc (Nat.le_refl _) _)
        have KA := Lib.hid (show Blk wA wr.heap.size 81 #[.int .u8 (p.b : Int), .int .i64 (p.n : Int), .int .i64 (p.d : Int)] by rw [hwA]; exact Blk.made _ _ _)
        have A0 := Lib.hid (own_below HO0.out LA.out)
        have A1 := Lib.hid (own_below HO1.out LA.out)
        have BA := Lib.hid (show Below w.heap.size w wA from HB.out.trans (LA.out.mono HB.out.size))
        by_cases h0 : p.n = 0
        · have hpb : p.b < 256 := by rcases hfp with h | h <;> omega
          have HSy := Lib.hid (show symOf p = p.b by unfold symOf; rw [if_pos h0])
          have q1 := A0.out.cellAt p.b (by omega)
          have q2 := A0.out.frozenAt p.b
          rw [ints_get (by rw [freqL_len]; omega)] at q1
          have hbd := freq_bd hll p.b
          have HFr := Lib.hid (freqL_step (l.take i) p hsy)
          rw [HSy.out] at HFr
          generalize (freqL (l.take i)).getD p.b 0 = z at q1 hbd HFr
          have r1 := q1
          have r2 := q2
          rw [hwA] at r1 r2
          rw [h0, show ((0 : Nat) : Int) = 0 from rfl] at p1 r1 r2 hwA
          go_wp2
          have hst := HO0.out.stored p.b (.int .i64 (z + 1))
          have G1 := Lib.hid (HO1.out.kept hst.2 (.inr (by simp [Value.ownBlock]; omega)))
          have G0 := Lib.hid hst.1
          have GB := Lib.hid (HB.out.grown hst.2 HB.out.size (fun k hk => (HO0.out.lt k hk).1))
          clear hst
          go_roundg (gk - 1)
          case measure => omega
          case rel =>
            refine ⟨i + 1, by go_num, by omega, ?_, ?_, GB.out.alloc GB.out.size _⟩
            · rw [HTk.out, ← HFr.out, List.map_set]
              exact G0.out.alloc _
            · rw [HTk.out, freqD_skip _ _ h0]
              exact G1.out.alloc _
        · have h0I : (((p.n : Nat) : Int) == 0) = false := by simp; omega
          have hfb : 3 ≤ p.n ∧ p.n ≤ 258 ∧ 1 ≤ p.d ∧ p.d ≤ 32768 := by
            rcases hfp with h | h
            · exact absurd h.1 h0
            · exact h
          obtain ⟨f1, f2, f3, f4⟩ := hfb
          have HSy := Lib.hid (show symOf p = 257 + lenK p.n by unfold symOf; rw [if_neg h0])
          have hs1 : 257 + lenK p.n < 286 := by have := lenK_le p.n; omega
          have hs2 : distK p.d < 30 := by have := distK_le p.d; omega
          have HFr := Lib.hid (freqL_step (l.take i) p hsy)
          have HFd := Lib.hid (freqD_step (l.take i) p h0 hs2)
          rw [HSy.out] at HFr
          have hlen := length_any p.n wA (HT.out.below BA.out) f1 f2
          have hbd := freq_bd hll (257 + lenK p.n)
          have hbe := freqD_bd hll (distK p.d)
          generalize 257 + lenK p.n = sL at hlen hs1 HFr hbd
          generalize p.n - (lbases.getD (lenK p.n) 0).toNat = xL at hlen
          generalize (lbits.getD (lenK p.n) 0).toNat = kL at hlen
          go_wp2_with fail
          rw [← hwA]
          clear hwA
          refine hlen.mono ?_
          clear hlen
          rintro ev w1 ⟨rfl, hb1⟩
          have C0 := Lib.hid (own_below A0.out hb1)
          have C1 := Lib.hid (own_below A1.out hb1)
          have KC := Lib.hid (KA.out.below hb1 KA.out.lt)
          have BC := Lib.hid (show Below w.heap.size w w1 from BA.out.trans (hb1.mono BA.out.size))
          have q1 := C0.out.cellAt sL (by omega)
          have q2 := C0.out.frozenAt sL
          rw [ints_get (by rw [freqL_len]; omega)] at q1
          generalize (freqL (l.take i)).getD sL 0 = z at q1 hbd HFr
          have hst := C0.out.stored sL (.int .i64 (z + 1))
          have hgn : wr.heap.size ≠ g0 := by omega
          obtain ⟨w2, hw2⟩ : ∃ w2, w2 = w1.setCell ⟨g0, sL, none⟩ (.int .i64 (z + 1)) := ⟨_, rfl⟩
          rw [← hw2] at hst
          have D0 := Lib.hid hst.1
          have D1 := Lib.hid (C1.out.kept hst.2 (.inr (by simp [Value.ownBlock]; omega)))
          have KD := Lib.hid (KC.out.grown hst.2 (by simp [Value.ownBlock]; omega))
          have BD := Lib.hid (BC.out.grown hst.2 BC.out.size (fun k hk => (C0.out.lt k hk).1))
          have e2 := KD.out.cell (i := 2) rfl
          rw [hw2] at e2
          clear hst hb1
          go_wp2_with fail
          rw [← hw2]
          clear hw2 e2 q1 q2
          have hdis := distance_any p.d w2 (HT.out.below BD.out) f3 f4
          generalize distK p.d = sD at hdis hs2 HFd hbe
          generalize p.d - (dbases.getD sD 0).toNat = xD at hdis
          generalize (dbits.getD sD 0).toNat = kD at hdis
          refine hdis.mono ?_
          clear hdis
          rintro ev w3 ⟨rfl, hb3⟩
          have E0 := Lib.hid (own_below D0.out hb3)
          have E1 := Lib.hid (own_below D1.out hb3)
          have BE := Lib.hid (show Below w.heap.size w w3 from BD.out.trans (hb3.mono BD.out.size))
          have q1 := E1.out.cellAt sD (by omega)
          have q2 := E1.out.frozenAt sD
          rw [ints_get (by rw [freqD_len]; omega)] at q1
          generalize (freqD (l.take i)).getD sD 0 = y at q1 hbe HFd
          go_wp2
          have hst := E1.out.stored sD (.int .i64 (y + 1))
          have G0 := Lib.hid (E0.out.kept hst.2 (.inr (by simp [Value.ownBlock]; omega)))
          have G1 := Lib.hid hst.1
          have GB := Lib.hid (BE.out.grown hst.2 BE.out.size (fun k hk => (E1.out.lt k hk).1))
          clear hst
          go_roundg (gk - 1)
          case measure => omega
          case rel =>
            refine ⟨i + 1, by go_num, by omega, ?_, ?_, GB.out⟩
            · rw [HTk.out, ← HFr.out, List.map_set]
              exact G0.out
            · rw [HTk.out, ← HFd.out, List.map_set]
              exact G1.out
      · obtain rfl : i = n := by omega
        have hF1 : RdI .i64 wr (some ⟨g0, 0, none⟩) 286 (freqL l) := by
          have h1 := RdI.of_own HO0.out
          rwa [List.take_of_length_le (by omega)] at h1
        have hF2 : RdI .i64 wr (some ⟨g1, 0, none⟩) 30 (freqD l) := by
          have h1 := RdI.of_own HO1.out
          rwa [List.take_of_length_le (by omega)] at h1
        have HF1 := Lib.hid hF1
        have HF2 := Lib.hid hF2
        clear hF1 hF2 HO0 HO1
        have hll : l.length ≤ 65536 := by omega
        go_wp2_with fail
        refine (dof_any (freqL l) (some ⟨g0, 0, none⟩) 286 286 15 wr HF1.out (okL hll) (by omega)).mono ?_
        rintro ev w1 ⟨X1, x1, X2, x2, rfl, hx1, hoX1, hoX2, hb1⟩
        have HF2' := Lib.hid (HF2.out.below hb1)
        have RX1 := Lib.hid hoX1
        have RX2 := Lib.hid hoX2
        have B1 := Lib.hid (show Below w.heap.size w w1 from HB.out.trans (hb1.mono HB.out.size))
        clear hoX1 hoX2 hb1 HF1 HF2 HB
        go_wp2_with fail
        refine (dof_any (freqD l) (some ⟨g1, 0, none⟩) 30 30 15 w1 HF2'.out (okD hll) (by omega)).mono ?_
        rintro ev w2 ⟨Y1, y1, Y2, y2, rfl, hy1, hoY1, hoY2, hb2⟩
        have SX1 := Lib.hid (own_below RX1.out hb2)
        have SX2 := Lib.hid (own_below RX2.out hb2)
        have SY1 := Lib.hid hoY1
        have SY2 := Lib.hid hoY2
        have B2 := Lib.hid (show Below w.heap.size w w2 from B1.out.trans (hb2.mono B1.out.size))
        clear hoY1 hoY2 hb2 RX1 RX2 B1 HF2'
        go_wp2
        obtain ⟨w3, hw3⟩ : ∃ w3, w3 = (w2.alloc (.cells #[.slice X1 286 x1, .slice X2 286 x2] 84)).alloc (.cells #[.slice Y1 30 y1, .slice Y2 30 y2] 84) := ⟨_, rfl⟩
        have L3 := Lib.hid (show Below w2.heap.size w2 w3 by rw [hw3]; exact ((Below.refl _ _).alloc (Nat.le_refl _) _).alloc (by simp) _)
        have Ka := Lib.hid (show Blk w3 w2.heap.size 84 #[.slice X1 286 x1, .slice X2 286 x2] by rw [hw3]; exact (Blk.made _ _ _).alloc _)
        have Kb := Lib.hid (show Blk w3 (w2.heap.size + 1) 84 #[.slice Y1 30 y1, .slice Y2 30 y2] by rw [hw3]; exact Blk.made_at _ _ _ (by simp))
        rw [← hw3]
        clear hw3
        have TX1 := Lib.hid (own_below SX1.out L3.out)
        have TX2 := Lib.hid (own_below SX2.out L3.out)
        have TY1 := Lib.hid (own_below SY1.out L3.out)
        have TY2 := Lib.hid (own_below SY2.out L3.out)
        have B3 := Lib.hid (show Below w.heap.size w w3 from B2.out.trans (L3.out.mono B2.out.size))
        clear SX1 SX2 SY1 SY2 B2 L3
        obtain ⟨fA1, fA2, fA3, fA4⟩ := fitA_facts hll
        obtain ⟨fD1, fD2, fD3, fD4⟩ := fitD_facts hll
        obtain ⟨fR1, fR2, fR3⟩ := fitRow_facts hll
        obtain ⟨fC1, fC2, fC3, fC4⟩ := fitC_facts fR3
        have FR1 := fR1
        have FC1 := Lib.hid fC1
        have FC3 := Lib.hid fC3
        have HC0 := Lib.hid (show fitC l = lengthsOf (oftenP (fitRow l)) 7 from rfl)
        have HR0 := Lib.hid (show fitRow l = runsP (trimP (fitA l) 257 ++ trimP (fitD l) 1) from rfl)
        have HB0 := Lib.hid (show fitB l = bitsL 5 3 ++ (bitsL ((trimP (fitA l) 257).length - 257) 5 ++ (bitsL ((trimP (fitD l) 1).length - 1) 5 ++ (bitsL ((trimP (orderL.map fun o => (fitC l).getD o.toNat 0) 4).length - 4) 4 ++ ((trimP (orderL.map fun o => (fitC l).getD o.toNat 0) 4).flatMap (fun z => bitsL z.toNat 3) ++ (ptsB (fitC l) (fitRow l) ++ pcsB (fitA l) (fitD l) l))))) from rfl)
        clear fR1 fC1 fC3 fC4 fR2 fA4 fD4
        have e15 : lengthsOf (freqL l) (15 : Int).toNat = fitA l := rfl
        have e15' : lengthsOf (freqD l) (15 : Int).toNat = fitD l := rfl
        rw [e15] at TX1 TX2
        rw [e15'] at TY1 TY2
        clear e15 e15'
        generalize fitA l = ZA at *
        generalize fitD l = ZD at *
        generalize fitRow l = ROW at *
        generalize fitC l = ZC at *
        have ma := Ka.out.cell (i := 0) rfl
        have mb := Kb.out.cell (i := 0) rfl
        have htA := trimGo_is ZA 257 286
        have htD := trimGo_is ZD 1 30
        have htA1 := htA.1
        have htA2 := htA.2.1 (by omega)
        have htD1 := htD.1
        have htD2 := htD.2.1 (by omega)
        have hTA : trimP ZA 257 = ZA.take (trimGo ZA 257 286) := by unfold trimP; rw [fA2]
        have hTD : trimP ZD 1 = ZD.take (trimGo ZD 1 30) := by unfold trimP; rw [fD2]
        rw [hTA, hTD] at HR0 HB0
        clear htA htD hTA hTD
        have hcA := trim_any ZA X1 286 x1 257 w3.drew (RdI.of_own TX1.out.drew) (by omega) (by omega) hx1
        have hcD := trim_any ZD Y1 30 y1 1 w3.drew (RdI.of_own TY1.out.drew) (by omega) (by omega) hy1
        generalize trimGo ZA 257 286 = tx at *
        generalize trimGo ZD 1 30 = ty at *
        refine wp_region_qs (fun _ w' => w'.cell? ⟨w2.heap.size, 0, none⟩ = some (.slice X1 286 x1) ∧ w'.cell? ⟨w2.heap.size + 1, 0, none⟩ = some (.slice Y1 30 y1)) [(0, some 2), (1, some 1), (3, some 2), (4, some 1), (2, none), (5, none), (6, some 2), (7, some 2)] (by kernel_rfl) (by kernel_rfl) (by kernel_rfl) (by kernel_rfl) (by kernel_rfl) (fun _ _ _ _ _ h => h) ⟨ma, mb⟩ ?_
        simp only [List.map_cons, List.map_nil, List.getD_cons_succ, List.getD_cons_zero]
        (repeat (first | (refine qs_now (v := ?_) (by rfl) ?_ ?_; rotate_left 1; (· (intro w' hS; go_simp; (try (simp only [↓IntWalk.iteOmega]; go_simp)); (try simp (disch := omega) only [IntWalk.i64_in]); try with_reducible rfl)); simp only [Act.put, List.setIfInBounds_toArray, List.set_cons_zero, List.set_cons_succ]) | (refine qs_run (v := ?_) (by rfl) ?_ ?_; rotate_left 1; (· (intro j w' hS; go_simp; (try (simp only [↓IntWalk.iteOmega]; go_simp)); (try simp (disch := omega) only [IntWalk.i64_in]); try with_reducible rfl)); simp only [Act.put, List.setIfInBounds_toArray, List.set_cons_zero, List.set_cons_succ]) | (refine qs_mid (v := ?_) (by rfl) ?_ ?_; rotate_left 1; (· (intro j w' hj1 hj2 hS; go_simp; (try (simp only [↓IntWalk.iteOmega]; go_simp)); (try simp (disch := omega) only [IntWalk.i64_in]); try with_reducible rfl)); simp only [Act.put, List.setIfInBounds_toArray, List.set_cons_zero, List.set_cons_succ]) | (refine qs_skip (by rfl) ?_; simp only [Act.put, List.setIfInBounds_toArray, List.set_cons_zero, List.set_cons_succ])))
        refine qs_act ?_
        go_wp2_with fail
        refine hcA.mono ?_
        rintro ev w4 ⟨rfl, rfl⟩
        go_wp2
        refine ⟨⟨ma, mb⟩, ?_⟩
        refine qs_act ?_
        go_wp2_with fail
        refine hcD.mono ?_
        rintro ev w4 ⟨rfl, rfl⟩
        go_wp2
        refine ⟨⟨ma, mb⟩, ?_⟩
        (repeat (first | (refine qs_now (v := ?_) (by rfl) ?_ ?_; rotate_left 1; (· (intro w' hS; go_simp; (try (simp only [↓IntWalk.iteOmega]; go_simp)); (try simp (disch := omega) only [IntWalk.i64_in]); try with_reducible rfl)); simp only [Act.put, List.setIfInBounds_toArray, List.set_cons_zero, List.set_cons_succ]) | (refine qs_run (v := ?_) (by rfl) ?_ ?_; rotate_left 1; (· (intro j w' hS; go_simp; (try (simp only [↓IntWalk.iteOmega]; go_simp)); (try simp (disch := omega) only [IntWalk.i64_in]); try with_reducible rfl)); simp only [Act.put, List.setIfInBounds_toArray, List.set_cons_zero, List.set_cons_succ]) | (refine qs_mid (v := ?_) (by rfl) ?_ ?_; rotate_left 1; (· (intro j w' hj1 hj2 hS; go_simp; (try (simp only [↓IntWalk.iteOmega]; go_simp)); (try simp (disch := omega) only [IntWalk.i64_in]); try with_reducible rfl)); simp only [Act.put, List.setIfInBounds_toArray, List.set_cons_zero, List.set_cons_succ]) | (refine qs_skip (by rfl) ?_; simp only [Act.put, List.setIfInBounds_toArray, List.set_cons_zero, List.set_cons_succ])))
        refine qs_nil ?_
        clear hcA hcD
        go_wp2_with (at_builtin; refine heldG ?_)
        unfold HeldG
        obtain ⟨wE, hwE⟩ : ∃ wE, wE = (w3.alloc (.cells #[] 3)).drew := ⟨_, rfl⟩
        have LE := Lib.hid (show Below w3.heap.size w3 wE by rw [hwE]; exact ((Below.refl _ _).alloc (Nat.le_refl _) _).drew)
        have hEo : wE.ownsRow w.heap.size 3 1 (.slice (some ⟨w3.heap.size, 0, none⟩) 0 0) 0 [] := ⟨rfl, .inr ⟨w3.heap.size, 0, #[], rfl, B3.out.size, by rw [hwE]; exact (Blk.made w3 3 #[]).drew, by simp, by unfold maxLen; simp, rfl, rfl⟩⟩
        rw [← hwE]
        clear hwE
        have BE := Lib.hid (show Below w.heap.size w wE from B3.out.trans (LE.out.mono B3.out.size))
        have HEo := Lib.hid hEo
        clear ma mb hEo
        have hs1 : Src wE 1 (.slice X1 tx x1) tx ((ZA.take tx).map (Value.int .i64)) := Src.of_rd (rd_take ((RdI.of_own TX1.out).below LE.out) tx (by omega))
        have HS1 := Lib.hid hs1
        clear hs1
        refine app_src rfl (.tmp 76) (.tmp 77) 75 rfl w.heap.size 3 _ 1 8 Tryz.underlying75 infoInt rfl (by omega) _ 0 [] rfl HEo.out _ tx _ rfl HS1.out (by intro y hy; obtain ⟨z, _, rfl⟩ := List.mem_map.1 hy; rfl) (by omega) (by omega) BE.out.size ?_
        intro v5 w5 ho5 hg5 hor5
        rw [Nat.zero_add] at ho5
        replace hg5 : wE.grownBy w5 (some w3.heap.size) := hg5
        replace hor5 : v5.ownBlock = some w3.heap.size ∨ v5.ownBlock = some wE.heap.size := hor5
        have L5 := Lib.hid (LE.out.grown hg5 LE.out.size (fun k hk => by injection hk with hk; omega))
        have hv5 : ∀ k, v5.ownBlock = some k → w3.heap.size ≤ k := fun k hk => by
          have h1 := LE.out.size
          rcases hor5 with e | e
          · rw [e] at hk; injection hk with hk; omega
          · rw [e] at hk; injection hk with hk; omega
        obtain ⟨V5, c5, rfl, hc5⟩ := own_slice ho5
        have H5 := Lib.hid (show w5.ownsRow w.heap.size 3 1 (.slice V5 (tx) c5) (tx) ((ZA.take tx).map (Value.int .i64)) by simpa using ho5)
        have HV5 := Lib.hid hv5
        have hs2 : Src w5 1 (.slice Y1 ty y1) ty ((ZD.take ty).map (Value.int .i64)) := Src.of_rd (rd_take ((RdI.of_own TY1.out).below L5.out) ty (by omega))
        have HS2 := Lib.hid hs2
        clear hs2 ho5 hg5 hor5 hv5 HEo HS1
        go_wp2_with (at_builtin; refine heldG ?_)
        unfold HeldG
        refine app_src rfl (.tmp 78) (.tmp 79) 75 rfl w.heap.size 3 _ 1 8 Tryz.underlying75 infoInt rfl (by omega) _ (tx) _ rfl H5.out _ ty _ rfl HS2.out (by intro y hy; obtain ⟨z, _, rfl⟩ := List.mem_map.1 hy; rfl) (by omega) (by omega) (Nat.le_trans B3.out.size L5.out.size) ?_
        intro v6 w6 ho6 hg6 hor6
        replace hg6 : w5.grownBy w6 (Value.slice V5 (tx) c5).ownBlock := hg6
        have L6 := Lib.hid (L5.out.grown hg6 L5.out.size (fun k hk => HV5.out k hk))
        have hrow : w6.ownsRow w.heap.size 3 1 v6 (tx + ty) ((ZA.take tx ++ ZD.take ty).map (Value.int .i64)) := by rw [List.map_append]; exact ho6
        obtain ⟨V6, c6, rfl, hc6⟩ := own_slice hrow
        obtain ⟨g6, c6', hv6, _, hg6lt⟩ := hrow.form (by omega)
        injection hv6 with hv6 _ hcc6
        subst hv6 hcc6
        have HRow := Lib.hid (RdI.of_own hrow)
        clear ho6 hg6 hor6 hrow H5 HV5 HS2
        go_wp2_with fail
        have hbz : ∀ z ∈ ZA.take tx ++ ZD.take ty, 0 ≤ z ∧ z < 16 := fun z hz => by
          rcases List.mem_append.1 hz with hz | hz
          · have := fA3 z (List.mem_of_mem_take hz); omega
          · have := fD3 z (List.mem_of_mem_take hz); omega
        refine (runs_any (ZA.take tx ++ ZD.take ty) g6 0 (tx + ty) c6 w6 HRow.out (by omega) hc6 hbz).mono ?_
        rintro ev w7 ⟨R7, r7, hev, ho7, hb7⟩
        rw [← HR0.out] at hev ho7
        subst hev
        have L7 := Lib.hid (show Below w3.heap.size w3 w7 from L6.out.trans (hb7.mono L6.out.size))
        have R7o := Lib.hid ho7
        have hpf := pts_fine ROW [] FR1.is
        have HPF := Lib.hid hpf
        have hrl : ROW.length ≤ 65536 := fR3
        have hS7 : w.heap.size ≤ w7.heap.size := Nat.le_trans B3.out.size L7.out.size
        clear ho7 hb7 hpf L5 L6 HRow LE BE FR1 hbz
        go_wp2_with (at_make; refine heldG ?_)
        unfold HeldG
        refine mk_ints rfl (.const (.int .i64 19)) (.const (.int .i64 19)) rfl w7.heap.size 19 _ _ rfl rfl rfl rfl (by omega) (Nat.le_refl _) ?_
        intro w8 ho8 hg8
        have O8 := Lib.hid ho8
        have B8 := Lib.hid (show Below w7.heap.size w7 w8 from (Below.refl _ _).grown hg8 (Nat.le_refl _) (fun k hk => by cases hk))
        clear ho8 hg8
        go_wp2
        go_loopg [85] ROW.length (FtO ROW w7.heap.size w7)
        case atStart =>
          refine ⟨0, rfl, by omega, ?_, B8.out⟩
          rw [List.take_zero, ← often_nil, List.map_replicate]
          exact O8.out
        case round =>
          clear O8 B8
          obtain ⟨i, rfl, hi, ho8, hb8⟩ := hrel
          have O8 := Lib.hid ho8
          have B8 := Lib.hid hb8
          clear ho8 hb8
          by_cases hlt2 : i < ROW.length
          · have hltI : (i : Int) < (ROW.length : Int) := by omega
            obtain ⟨gp, q, rfl, hgp, hq, p0, p1, p2⟩ := pt_at (own_below R7o.out B8.out) rfl hlt2
            obtain ⟨hq1, hq2, hq3⟩ := HPF.out q (List.mem_of_getElem? hq)
            have HTk := Lib.hid (take_getq hq)
            have hll2 : (ROW.take i).length ≤ 65536 := by rw [List.length_take]; omega
            have q1 := (O8.out.alloc (.cells #[.int .i64 (q.s : Int), .int .i64 (q.x : Int), .int .i64 (q.k : Int)] 87)).cellAt q.s (by omega)
            have q2 := (O8.out.alloc (.cells #[.int .i64 (q.s : Int), .int .i64 (q.x : Int), .int .i64 (q.k : Int)] 87)).frozenAt q.s
            rw [ints_get (by rw [often_len]; omega)] at q1
            have hbd := often_bd hll2 q.s
            have HFr := Lib.hid (often_step (ROW.take i) q hq1)
            generalize (oftenP (ROW.take i)).getD q.s 0 = z at q1 hbd HFr
            clear hq
            go_wp2
            have hst := (O8.out.alloc (.cells #[.int .i64 (q.s : Int), .int .i64 (q.x : Int), .int .i64 (q.k : Int)] 87)).stored q.s (.int .i64 (z + 1))
            have G8 := Lib.hid hst.1
            have GB := Lib.hid ((B8.out.alloc B8.out.size _).grown hst.2 (by have := B8.out.size; simp; omega) (fun k hk => (O8.out.lt k hk).1))
            clear hst
            go_roundg (gk - 1)
            case measure => omega
            case rel =>
              refine ⟨i + 1, by go_num, by omega, ?_, GB.out⟩
              rw [HTk.out, ← HFr.out, List.map_set]
              exact G8.out
          · obtain rfl : i = ROW.length := by omega
            have hF : RdI .i64 wr (some ⟨w7.heap.size, 0, none⟩) 19 (oftenP ROW) := by
              have h1 := RdI.of_own O8.out
              rwa [List.take_of_length_le (Nat.le_refl _)] at h1
            have HFo := Lib.hid hF
            clear hF O8
            go_wp2_with fail
            refine (dof_any (oftenP ROW) (some ⟨w7.heap.size, 0, none⟩) 19 19 7 wr HFo.out (okO hrl) (by omega)).mono ?_
            rintro ev w9 ⟨Z1, z1, Z2, z2, rfl, hz1, hoZ1, hoZ2, hb9⟩
            have e7 : lengthsOf (oftenP ROW) (7 : Int).toNat = ZC := HC0.out.symm
            rw [e7] at hoZ1 hoZ2
            have B9 := Lib.hid (show Below w7.heap.size w7 w9 from B8.out.trans (hb9.mono B8.out.size))
            have SZ1 := Lib.hid hoZ1
            have SZ2 := Lib.hid hoZ2
            clear hoZ1 hoZ2 hb9 e7 HFo B8
            obtain ⟨wC, hwC⟩ : ∃ wC, wC = w9.alloc (.cells #[.slice Z1 19 z1, .slice Z2 19 z2] 84) := ⟨_, rfl⟩
            have LC := Lib.hid (show Below w9.heap.size w9 wC by rw [hwC]; exact (Below.refl _ _).alloc (Nat.le_refl _) _)
            have KC := Lib.hid (show Blk wC w9.heap.size 84 #[.slice Z1 19 z1, .slice Z2 19 z2] by rw [hwC]; exact Blk.made _ _ _)
            have TZ1 := Lib.hid (own_below SZ1.out LC.out)
            have TZ2 := Lib.hid (own_below SZ2.out LC.out)
            have B7C := Lib.hid (show Below w7.heap.size w7 wC from B9.out.trans (LC.out.mono B9.out.size))
            have L3C := Lib.hid (show Below w3.heap.size w3 wC from L7.out.trans (B7C.out.mono L7.out.size))
            have BwC := Lib.hid (show Below w.heap.size w wC from B3.out.trans (L3C.out.mono B3.out.size))
            clear SZ1 SZ2 B9 LC
            have hTab := (HT.out.below BwC.out).2.2.1
            have HTab := Lib.hid hTab
            clear hTab
            obtain ⟨OA, hOA⟩ : ∃ OA : Array Value, OA = (orderL.map (Value.int .i64)).toArray := ⟨_, rfl⟩
            have HIX := Lib.hid idx_order
            rw [← hOA] at HIX
            have HOA := Lib.hid hOA
            clear hOA
            have hTabE := tab_range HTab.out
            rw [hwC] at hTabE
            go_wp2_with (refine wpList_load_mid rfl 93 (.global 0) rfl 0 0 rfl (orderL.map (Value.int .i64)) _ hTabE Tryz.underlying93 rfl infoOrd ?_; rw [← HOA.out])
            rw [← hwC]
            clear hwC hTabE
            go_loopg [16, 100] 19 (FtS ZC wC)
            case atStart => exact ⟨0, rfl, rfl, World.ownsRow_nil _ _ _ _, Below.refl _ _⟩
            case round =>
              obtain ⟨i, rfl, hi, hos, hbs⟩ := hrel
              have OS := Lib.hid hos
              have BS := Lib.hid hbs
              have TZ := Lib.hid (own_below TZ1.out hbs)
              have m0 := (KC.out.below hbs KC.out.lt).cell (i := 0) rfl
              clear hos hbs
              by_cases hlt3 : i < 19
              · have hltI : (i : Int) < 19 := by omega
                have hob := ordl_bd i hlt3
                obtain ⟨o, ho⟩ : ∃ o : Nat, orderL.getD i 0 = (o : Int) := ⟨(orderL.getD i 0).toNat, by omega⟩
                have hix := HIX.out i hlt3
                have HTk := Lib.hid (take_snoc orderL i hlt3)
                rw [ho] at hix hob HTk
                have ho19 : o < 19 := by omega
                obtain ⟨gz, cz, hvz, _, hgz⟩ := TZ.out.form (by omega)
                injection hvz with hvz _ hcz
                subst hvz hcz
                have q1 := TZ.out.cellAt o (by omega)
                rw [ints_get (by omega)] at q1
                generalize hzz : ZC.getD o 0 = zz at q1
                have HZZ := Lib.hid hzz
                clear hob ho hzz
                go_wp2_with (refine app_int rfl (.tmp 103) (.tmp 109) rfl wC.heap.size _ i _ wr.heap.size _ 3 rfl (OS.out.alloc _) rfl (Blk.made _ _ _) (by omega) (by have := BS.out.size; simp; omega) ?_; intro g6 cap6 w6 ho6 hg6 hor6 hlt6; have HO6 := Lib.hid ho6; have HG6 := Lib.hid hg6; clear ho6 hg6 hor6)
                go_roundg (gk - 1)
                case measure => omega
                case rel =>
                  refine ⟨i + 1, by go_num, by omega, ?_, (BS.out.alloc BS.out.size _).grown HG6.out (by have := BS.out.size; simp; omega) (fun k hk => (OS.out.lt k hk).1)⟩
                  have h1 := HO6.out
                  rw [HTk.out, List.map_append, List.map_append]
                  rw [List.map_append, ← HZZ.out] at h1
                  simpa using h1
              · obtain rfl : i = 19 := by omega
                have hos := OS.out
                rw [List.take_of_length_le (by decide)] at hos
                obtain ⟨S0, hS0⟩ : ∃ S0 : List Int, S0 = orderL.map fun o => ZC.getD o.toNat 0 := ⟨_, rfl⟩
                rw [← hS0] at hos HB0
                have hSl : S0.length = 19 := by rw [hS0, List.length_map]; rfl
                have hSb : ∀ z ∈ S0, 0 ≤ z ∧ z ≤ 7 := fun z hz => by
                  rw [hS0] at hz
                  obtain ⟨o, _, rfl⟩ := List.mem_map.1 hz
                  rcases Nat.lt_or_ge o.toNat ZC.length with h | h
                  · exact FC3.out _ (by simp [h])
                  · rw [List.getD_eq_getElem?_getD, List.getElem?_eq_none h]; simp
                have HSb := Lib.hid hSb
                clear hS0 hSb
                obtain ⟨AS, cs, rfl, hcs⟩ := own_slice hos
                have hts := trimGo_is S0 4 19
                have hts1 := hts.1
                have hts2 := hts.2.1 (by omega)
                have hTS : trimP S0 4 = S0.take (trimGo S0 4 19) := by unfold trimP; rw [hSl]
                rw [hTS] at HB0
                have HOS := Lib.hid hos
                clear hts hTS hos OS
                have hcS := trim_any S0 AS 19 cs 4 wr (RdI.of_own HOS.out) (by omega) (by omega) hcs
                generalize trimGo S0 4 19 = ts at *
                go_wp2_with fail
                refine hcS.mono ?_
                clear hcS
                rintro ev wS ⟨rfl, rfl⟩
                go_wp2_with fail
                refine (newWriter_any wS).mono ?_
                rintro ev wW ⟨g, rfl, hg, hw, hbW⟩
                have HWw := Lib.hid (hw.below ((Below.refl wW.heap.size wW).alloc (Nat.le_refl _) (.cells #[.pointer (some ⟨g, 0, none⟩)] 70)))
                obtain ⟨wX, hwX⟩ : ∃ wX, wX = wW.alloc (.cells #[.pointer (some ⟨g, 0, none⟩)] 70) := ⟨_, rfl⟩
                rw [← hwX] at HWw
                have BX := Lib.hid (show Below wS.heap.size wS wX by rw [hwX]; exact hbW.alloc hbW.size _)
                have KX := Lib.hid (show Blk wX wW.heap.size 70 #[.pointer (some ⟨g, 0, none⟩)] by rw [hwX]; exact Blk.made _ _ _)
                have BCX := Lib.hid (show Below wC.heap.size wC wX from BS.out.trans (BX.out.mono BS.out.size))
                have B7X := Lib.hid (show Below w7.heap.size w7 wX from B7C.out.trans (BCX.out.mono B7C.out.size))
                have B3X := Lib.hid (show Below w3.heap.size w3 wX from L3C.out.trans (BCX.out.mono L3C.out.size))
                have BwX := Lib.hid (show Below w.heap.size w wX from BwC.out.trans (BCX.out.mono BwC.out.size))
                have hgw : w.heap.size ≤ g := by have h1 := BwC.out.size; have h2 := BS.out.size; omega
                have XA : Hid (CodeOk wX ZA X1 X2 286 x1 x2) := Lib.hid ⟨ownbase (own_below TX1.out B3X.out) (Nat.zero_le _), ownbase (own_below TX2.out B3X.out) (Nat.zero_le _)⟩
                have XD : Hid (CodeOk wX ZD Y1 Y2 30 y1 y2) := Lib.hid ⟨ownbase (own_below TY1.out B3X.out) (Nat.zero_le _), ownbase (own_below TY2.out B3X.out) (Nat.zero_le _)⟩
                have XC : Hid (CodeOk wX ZC Z1 Z2 19 z1 z2) := Lib.hid ⟨ownbase (own_below TZ1.out BCX.out) (Nat.zero_le _), ownbase (own_below TZ2.out BCX.out) (Nat.zero_le _)⟩
                have XS := Lib.hid (own_below HOS.out BX.out)
                have XR := Lib.hid (own_below R7o.out B7X.out)
                have XL := Lib.hid (HL.out.below BwX.out)
                have XT := Lib.hid (HT.out.below BwX.out)
                have Kaa := Lib.hid (Ka.out.below B3X.out Ka.out.lt)
                have Kbb := Lib.hid (Kb.out.below B3X.out Kb.out.lt)
                have Kcc := Lib.hid (KC.out.below BCX.out KC.out.lt)
                have hGT := HT.out.2.2.2
                clear TX1 TX2 TY1 TY2 TZ1 TZ2 TZ HOS R7o Ka Kb KC B7C L3C BwC BCX B7X B3X B3 BX BS hw hbW m0 L7 HIX HOA HTab HC0 HR0
                have k0 := KX.out.cell (i := 0) rfl
                rw [hwX] at k0
                go_wp2_with fail
                rw [← hwX]
                clear k0 hwX
                refine (put_any [] g none 5 3 wX HWw.out (by omega) (by omega) (by simp)).mono ?_
                rintro ev wa ⟨rfl, own1, hw1, st1⟩
                have W1 := Lib.hid hw1
                have S1 := Lib.hid st1
                have k1 := (st1.blk HWw.out KX.out (by decide) (by decide)).cell (i := 0) rfl
                clear hw1 st1
                go_wp2_with fail
                rw [show (tx : Int) - 256 - 1 = ((tx - 257 : Nat) : Int) by omega]
                refine (put_any ([] ++ bitsL 5 3) g own1 (tx - 257) 5 wa W1.out (by omega) (by omega) (by simp [bitsL_len])).mono ?_
                rintro ev wb ⟨rfl, own2, hw2, st2⟩
                have W2 := Lib.hid hw2
                have S2 := Lib.hid (S1.out.trans st2)
                have k2 := (S2.out.blk HWw.out KX.out (by decide) (by decide)).cell (i := 0) rfl
                clear hw2 st2 k1 W1 S1
                go_wp2_with fail
                rw [show (ty : Int) - 1 = ((ty - 1 : Nat) : Int) by omega]
                refine (put_any ([] ++ bitsL 5 3 ++ bitsL (tx - 257) 5) g own2 (ty - 1) 5 wb W2.out (by omega) (by omega) (by simp [bitsL_len])).mono ?_
                rintro ev wc ⟨rfl, own3, hw3, st3⟩
                have W3 := Lib.hid hw3
                have S3 := Lib.hid (S2.out.trans st3)
                have k3 := (S3.out.blk HWw.out KX.out (by decide) (by decide)).cell (i := 0) rfl
                clear hw3 st3 k2 W2 S2
                go_wp2_with fail
                rw [show (ts : Int) - 4 = ((ts - 4 : Nat) : Int) by omega]
                refine (put_any ([] ++ bitsL 5 3 ++ bitsL (tx - 257) 5 ++ bitsL (ty - 1) 5) g own3 (ts - 4) 4 wc W3.out (by omega) (by omega) (by simp [bitsL_len])).mono ?_
                rintro ev wd ⟨rfl, own4, hw4, st4⟩
                have W4 := Lib.hid hw4
                have S4 := Lib.hid (S3.out.trans st4)
                have K4 := Lib.hid (S4.out.blk HWw.out KX.out (by decide) (by decide))
                clear hw4 st4 k3 W3 S3
                have hlB : ([] ++ bitsL 5 3 ++ bitsL (tx - 257) 5 ++ bitsL (ty - 1) 5 ++ bitsL (ts - 4) 4).length = 17 := by simp [bitsL_len]
                have HB1 := Lib.hid (show fitB l = ([] ++ bitsL 5 3 ++ bitsL (tx - 257) 5 ++ bitsL (ty - 1) 5 ++ bitsL (ts - 4) 4) ++ (S0.take ts).flatMap (fun z => bitsL z.toNat 3) ++ ptsB ZC ROW ++ pcsB ZA ZD l by
                  rw [HB0.out, List.length_take, List.length_take, List.length_take, Nat.min_eq_left (by omega), Nat.min_eq_left (by omega), Nat.min_eq_left (by omega)]
                  simp only [List.append_assoc, List.nil_append])
                clear HB0
                generalize [] ++ bitsL 5 3 ++ bitsL (tx - 257) 5 ++ bitsL (ty - 1) 5 ++ bitsL (ts - 4) 4 = BT at *
                have hsl : (S0.take ts).length = ts := by rw [List.length_take]; omega
                go_wp2
                go_loopg [143] ts (FtZ (S0.take ts) BT g own4 wd)
                case atStart => exact ⟨0, own4, rfl, by omega, by simpa using W4.out, WrStep.refl _ _ _⟩
                case round =>
                  obtain ⟨i, own5, rfl, hi, hw5, st5⟩ := hrel
                  have W5 := Lib.hid hw5
                  have S5 := Lib.hid (S4.out.trans st5)
                  have S45 := Lib.hid st5
                  have k5 := (st5.blk W4.out K4.out (by decide) (by decide)).cell (i := 0) rfl
                  have YS := Lib.hid (S5.out.keeps HWw.out XS.out (by decide) (by decide))
                  have hl5 : (BT ++ ((S0.take ts).take i).flatMap (fun z => bitsL z.toNat 3)).length ≤ 100 := by
                    have h1 := flat3_len ((S0.take ts).take i)
                    rw [List.length_take] at h1
                    rw [List.length_append]
                    omega
                  clear hw5 st5
                  by_cases hlt4 : i < ts
                  · have hltI : (i : Int) < (ts : Int) := by omega
                    obtain ⟨gs, cgs, hvs, _, hgs⟩ := YS.out.form (by omega)
                    injection hvs with hvs _ hcgs
                    subst hvs hcgs
                    have q1 := YS.out.cellAt i (by omega)
                    rw [ints_get (by omega)] at q1
                    have hzb := HSb.out (S0.getD i 0) (by simp [show i < S0.length by omega])
                    obtain ⟨z, hz⟩ : ∃ z : Nat, S0.getD i 0 = (z : Int) := ⟨(S0.getD i 0).toNat, by omega⟩
                    rw [hz] at q1 hzb
                    have HTk := Lib.hid (show (S0.take ts).take (i + 1) = (S0.take ts).take i ++ [(z : Int)] by
                      rw [take_snoc (S0.take ts) i (by omega)]
                      congr 2
                      rw [← hz]
                      simp only [List.getD_eq_getElem?_getD]
                      rw [List.getElem?_take_of_lt hlt4])
                    clear hz
                    have hz7 : z ≤ 7 := by omega
                    go_wp2_with fail
                    refine (put_any (BT ++ ((S0.take ts).take i).flatMap (fun z => bitsL z.toNat 3)) g own5 z 3 wr W5.out (by omega) (by omega) (by omega)).mono ?_
                    rintro ev we ⟨rfl, own6, hw6, st6⟩
                    have W6 := Lib.hid hw6
                    have S6 := Lib.hid (S45.out.trans st6)
                    clear hw6 st6
                    go_wp2
                    go_roundg (gk - 1)
                    case measure => omega
                    case rel =>
                      refine ⟨i + 1, own6, by go_num, by omega, ?_, S6.out⟩
                      have h1 := W6.out
                      rw [HTk.out, List.flatMap_append]
                      simpa using h1
                  · obtain rfl : i = ts := by omega
                    have hw6 := W5.out
                    rw [List.take_of_length_le (l := S0.take i) (by omega)] at hw6 hl5
                    have W6 := Lib.hid hw6
                    clear hw6 W5 W4 S4 S45 YS XS
                    have K5 := Lib.hid (S5.out.blk HWw.out KX.out (by decide) (by decide))
                    have YC := Lib.hid (XC.out.step HWw.out S5.out)
                    have YR := Lib.hid (S5.out.keeps HWw.out XR.out (by decide) (by decide))
                    have Kc5 := Lib.hid (S5.out.blk HWw.out Kcc.out (by decide) (by decide))
                    generalize BT ++ (S0.take i).flatMap (fun z => bitsL z.toNat 3) = BU at *
                    obtain ⟨wf, hwf⟩ : ∃ wf : World, wf = wr := ⟨_, rfl⟩
                    subst hwf
                    go_wp2
                    go_loopg [155] ROW.length (FtP ROW ZC BU g own5 wf)
                    case atStart => exact ⟨0, own5, rfl, by omega, by simpa using W6.out, WrStep.refl _ _ _⟩
                    case round =>
                      obtain ⟨j, own7, rfl, hj, hw7, st7⟩ := hrel
                      have W7 := Lib.hid hw7
                      have S7 := Lib.hid st7
                      have T7 := Lib.hid (S5.out.trans st7)
                      clear hw7 st7
                      have hl7 : (BU ++ (ROW.take j).flatMap (ptB ZC)).length ≤ 10000000 := by
                        have h1 := ptsB_le FC1.out fC2 (ROW.take j) (fun q hq => HPF.out q (List.mem_of_mem_take hq))
                        rw [List.length_take] at h1
                        rw [List.length_append]
                        omega
                      by_cases hlt5 : j < ROW.length
                      · have hltI : (j : Int) < (ROW.length : Int) := by omega
                        have hR7 := S7.out.keeps W6.out YR.out (by decide) (by decide)
                        obtain ⟨gp, q, rfl, hgp, hq, p0, p1, p2⟩ := pt_at hR7 rfl hlt5
                        obtain ⟨hq1, hq2, hq3⟩ := HPF.out q (List.mem_of_getElem? hq)
                        have HTk := Lib.hid (take_getq hq)
                        obtain ⟨wg, hwg⟩ : ∃ wg, wg = wr.alloc (.cells #[.int .i64 (q.s : Int), .int .i64 (q.x : Int), .int .i64 (q.k : Int)] 87) := ⟨_, rfl⟩
                        have LG := Lib.hid (show Below wr.heap.size wr wg by rw [hwg]; exact (Below.refl _ _).alloc (Nat.le_refl _) _)
                        have KG := (S7.out.blk W6.out K5.out (by decide) (by decide)).below LG.out (S7.out.blk W6.out K5.out (by decide) (by decide)).lt
                        have KGc := (S7.out.blk W6.out Kc5.out (by decide) (by decide)).below LG.out (S7.out.blk W6.out Kc5.out (by decide) (by decide)).lt
                        have r0 := KG.cell (i := 0) rfl
                        have r1 := KGc.cell (i := 0) rfl
                        have r2 := KGc.cell (i := 1) rfl
                        have HWg := Lib.hid (W7.out.below LG.out)
                        have HCg := Lib.hid ((YC.out.step W6.out S7.out).below LG.out)
                        have SG := Lib.hid (S7.out.trans (WrStep.of_below LG.out))
                        rw [hwg] at r0 r1 r2
                        clear hq hR7 KG KGc
                        go_wp2_with fail
                        rw [← hwg]
                        clear hwg r0 r1 r2 p0 p1 p2
                        refine (dput_any (BU ++ (ROW.take j).flatMap (ptB ZC)) g own7 ZC Z1 Z2 19 z1 z2 q.s q.x q.k wg HWg.out HCg.out FC1.out (by omega) (by omega) (by omega) (by omega) (by omega)).mono ?_
                        rintro ev wh ⟨rfl, own8, hw8, st8⟩
                        have W8 := Lib.hid hw8
                        have S8 := Lib.hid (SG.out.trans st8)
                        clear hw8 st8
                        go_wp2
                        go_roundg (gk - 1)
                        case measure => omega
                        case rel =>
                          refine ⟨j + 1, own8, by go_num, by omega, ?_, S8.out⟩
                          have h1 := W8.out
                          rw [HTk.out, List.flatMap_append, List.flatMap_singleton, ← List.append_assoc]
                          exact h1
                      · obtain rfl : j = ROW.length := by omega
                        have hw8 := W7.out
                        rw [List.take_of_length_le (Nat.le_refl _)] at hw8 hl7
                        have W8 := Lib.hid hw8
                        clear hw8 W7 W6 YR YC
                        have k8 := (T7.out.blk HWw.out KX.out (by decide) (by decide)).cell (i := 0) rfl
                        have ka0 := (T7.out.blk HWw.out Kaa.out (by decide) (by decide)).cell (i := 0) rfl
                        have ka1 := (T7.out.blk HWw.out Kaa.out (by decide) (by decide)).cell (i := 1) rfl
                        have kb0 := (T7.out.blk HWw.out Kbb.out (by decide) (by decide)).cell (i := 0) rfl
                        have kb1 := (T7.out.blk HWw.out Kbb.out (by decide) (by decide)).cell (i := 1) rfl
                        have hlo0 : Lo w.heap.size none := fun j hj => by cases hj
                        have hlo8 := T7.out.lo hlo0 BwX.out.size
                        have YA := XA.out.step HWw.out T7.out
                        have YD := XD.out.step HWw.out T7.out
                        have YL := XL.out.step HWw.out T7.out
                        have YT := XT.out.step T7.out (by omega) (fun j hj => by cases hj)
                        go_wp2_with fail
                        refine (dpieces_any (BU ++ ROW.flatMap (ptB ZC)) g own7 ZA ZD X1 X2 Y1 Y2 286 x1 x2 30 y1 y2 l A _ c wr W8.out YA YD fA1 fD1 (by omega) (by omega) YL hn HF.out YT (by omega) (fun j hj => by have := hlo8 j hj; omega) (by omega)).mono ?_
                        rintro ev wi ⟨rfl, own9, hw9, st9⟩
                        have W9 := Lib.hid hw9
                        have S9 := Lib.hid (T7.out.trans st9)
                        have B9 := Lib.hid (show Below w.heap.size w wi from BwX.out.trans (S9.out.below hgw hlo0 BwX.out.size))
                        have k9 := (S9.out.blk HWw.out KX.out (by decide) (by decide)).cell (i := 0) rfl
                        clear hw9 st9 k8 ka0 ka1 kb0 kb1 YA YD YL YT
                        have hl9 : (BU ++ ROW.flatMap (ptB ZC) ++ pcsB ZA ZD l).length ≤ 1000000000 := by
                          have h1 := pcsB_le fA1 fD1 (by omega) (by omega) l HF.out
                          have h2 := litB_le fA1 (s := 256) (by omega)
                          unfold pcsB
                          simp only [List.length_append] at hl7 ⊢
                          omega
                        have hB01 : Bit01 (BU ++ ROW.flatMap (ptB ZC) ++ pcsB ZA ZD l) := W9.out.bit01
                        go_wp2_with fail
                        refine (wbytes_any (BU ++ ROW.flatMap (ptB ZC) ++ pcsB ZA ZD l) g own9 wi W9.out hl9).mono ?_
                        intro ev wj hp
                        have hpp := pack_of hB01 hp B9.out
                        rw [show BU ++ ROW.flatMap (ptB ZC) ++ pcsB ZA ZD l = fitB l by rw [HB1.out]; rfl] at hpp
                        obtain ⟨A7, c7, rfl, hc7, ho7, hb7⟩ := hpp
                        go_wp2
                        go_ret
                        exact ⟨A7, c7, rfl, hc7, ho7, hb7⟩
end Go.Proofs.YthmcdohndckniaaGreatDoor
namespace Go.Proofs.YthmcdohndckniaaGreatDoor
open Go.RowKit
set_option linter.unusedVariables false

/-- A row of bytes of the call's own. -/
def OwnB (base : Nat) (w : World) (v : Value) (s : List Int) : Prop :=
  ∃ A c, v = .slice A s.length c ∧ s.length ≤ c ∧ w.ownsRow base 5 1 (.slice A s.length c) s.length (s.map (Value.int .u8))
theorem OwnB.below {base : Nat} {w w' : World} {v : Value} {s : List Int} (h : OwnB base w v s) (hb : Below w.heap.size w w') : OwnB base w' v s := by
  obtain ⟨A, c, e, hc, ho⟩ := h
  exact ⟨A, c, e, hc, own_below ho hb⟩
def bestOf (P F G : List Int) : Nat → List Int
  | 0 => P
  | 1 => if F.length < P.length then F else P
  | _ => if G.length < (if F.length < P.length then F else P).length then G else if F.length < P.length then F else P
theorem bestB_of (b : List Int) : bestB b = bestOf (packB (plainB b)) (packB (fixB (parseP b))) (packB (fitB (parseP b))) 2 := rfl
def DfI (P F G : List Int) (w w2 : World) (k : Nat) (bv iv : Value) (wr : World) : Prop :=
  ∃ i, iv = .int .i64 ((i : Nat) : Int) ∧ i + k = 2 ∧ OwnB w.heap.size wr bv (bestOf P F G i) ∧ Below w2.heap.size w2 wr
theorem dfIx0 (w : World) : (Instr.index 38 (.agg #[.func (.func 16) #[] #[], .func (.func 17) #[] #[]]) (.int .i64 0)).run Tryz.prog w = .ok (.func (.func 16) #[] #[]) w := by kernel_rfl
theorem dfIx1 (w : World) : (Instr.index 38 (.agg #[.func (.func 16) #[] #[], .func (.func 17) #[] #[]]) (.int .i64 1)).run Tryz.prog w = .ok (.func (.func 17) #[] #[]) w := by kernel_rfl
def DeflPost (b : List Int) (w : World) (ev : Ending) (w' : World) : Prop := ∃ v, ev = .returned (.tuple #[v, .int .i64 0]) ∧ OwnB w.heap.size w' v (bestB b) ∧ Below w.heap.size w w'
theorem deflate_long (A : Option Addr) (n c : Nat) (w : World) (hn : 65536 < n) (hn2 : n ≤ 4611686018427387904) :
    Calls Tryz.prog 6 #[.slice A n c] w fun ev w' => ev = .returned (.tuple #[.slice none 0 0, .int .i64 3]) ∧ Below w.heap.size w w' := by
  have hnI : (65536 : Int) < (n : Int) := by omega
  go_enter Tryz.func6, Tryz.ntmps6
  go_wp2
  go_ret2
  exact ⟨rfl, Below.refl _ _⟩
set_option maxHeartbeats 1600000 in
theorem deflate_any (b : List Int) (A : Option Addr) (n c : Nat) (w : World) (hr : RdI .u8 w A n b) (hB : ∀ z ∈ b, 0 ≤ z ∧ z < 256) (hn : n ≤ 65536) (hc : n ≤ c) (ht : DTabs w) :
    Calls Tryz.prog 6 #[.slice A n c] w (DeflPost b w) := by
  have hnI : ¬ (65536 : Int) < (n : Int) := by omega
  have HR := Lib.hid hr
  have HBy := Lib.hid hB
  have HT := Lib.hid ht
  have hbl := hr.1
  have i0 := dfIx0
  have i1 := dfIx1
  have hps := parse_says hB
  have HFn := Lib.hid (fine_of _ _ hps.1)
  have hlen : (parseP b).length ≤ 65536 := by
    have h1 := pcs_len (parseP b) []
    rw [hps.2] at h1
    simp at h1
    omega
  clear hr hB ht hps
  go_enter Tryz.func6, Tryz.ntmps6
  go_wp2_with fail
  refine (plain_any b A n c w HR.out HBy.out hn hc).mono ?_
  rintro ev w1 ⟨P1, p1, rfl, hp1, hoP, hb1⟩
  have O1 := Lib.hid (show OwnB w.heap.size w1 (.slice P1 (packB (plainB b)).length p1) (packB (plainB b)) from ⟨P1, p1, rfl, hp1, hoP⟩)
  have B1 := Lib.hid hb1
  clear hoP hb1 hp1
  go_wp2_with fail
  refine (parse_any b A n c w1 (HR.out.below B1.out) HBy.out hn hc).mono ?_
  rintro ev w2 ⟨L2, l2, rfl, hoL, hb2⟩
  have O2 := Lib.hid (O1.out.below hb2)
  have B2 := Lib.hid (show Below w.heap.size w w2 from B1.out.trans (hb2.mono B1.out.size))
  have HL2 := Lib.hid (show PcRow w2 L2 (parseP b).length l2 (parseP b) from ownbase hoL (Nat.zero_le _))
  have HBest := Lib.hid (bestB_of b)
  clear hoL hb2 O1 B1
  have hfix := fun (w' : World) (h : Below w2.heap.size w2 w') => dfixed_any (parseP b) L2 (parseP b).length l2 w' (HL2.out.below h) hlen HFn.out (HT.out.below (B2.out.trans (h.mono B2.out.size)))
  have hfit := fun (w' : World) (h : Below w2.heap.size w2 w') => dfitted_any (parseP b) L2 (parseP b).length l2 w' (HL2.out.below h) hlen HFn.out (HT.out.below (B2.out.trans (h.mono B2.out.size)))
  have HFix := Lib.hid hfix
  have HFit := Lib.hid hfit
  clear hfix hfit
  unfold PackPost at HFix HFit
  generalize packB (plainB b) = P at *
  generalize packB (fixB (parseP b)) = F at *
  generalize packB (fitB (parseP b)) = G at *
  go_wp2
  go_loopg [4, 17] 2 (DfI P F G w w2)
  case atStart => exact ⟨0, rfl, rfl, O2.out, Below.refl _ _⟩
  case round =>
    obtain ⟨i, rfl, hi, ⟨Ab, cb, rfl, hcb, hob⟩, hb⟩ := hrel
    have O := Lib.hid hob
    have BB := Lib.hid hb
    have hws : w.heap.size ≤ wr.heap.size := Nat.le_trans B2.out.size hb.size
    clear hob hb
    obtain rfl | rfl | rfl : i = 0 ∨ i = 1 ∨ i = 2 := by omega
    · go_wp2_with fail
      refine (HFix.out wr BB.out).mono ?_
      rintro ev w3 ⟨A3, c3, rfl, hc3, ho3, hb3⟩
      have hbb : (bestOf P F G 1) = if F.length < (bestOf P F G 0).length then F else (bestOf P F G 0) := rfl
      have O3 := Lib.hid (own_below O.out hb3)
      have OF := Lib.hid (ownbase ho3 hws)
      have B3 := Lib.hid (BB.out.trans (hb3.mono BB.out.size))
      clear ho3 hb3 O BB
      generalize hY : (bestOf P F G 1) = Y at *
      generalize (bestOf P F G 0) = X at *
      have HY := Lib.hid hY
      clear hY
      by_cases hlt : F.length < X.length
      · have hltI : (F.length : Int) < (X.length : Int) := by omega
        rw [if_pos hlt] at hbb
        go_wp2
        go_roundg (gk - 1)
        case measure => omega
        case rel =>
          refine ⟨1, by go_num, by omega, ?_, B3.out⟩
          rw [HY.out, hbb]
          exact ⟨A3, c3, rfl, hc3, OF.out⟩
      · have hltI : ¬ (F.length : Int) < (X.length : Int) := by omega
        rw [if_neg hlt] at hbb
        go_wp2
        go_roundg (gk - 1)
        case measure => omega
        case rel =>
          refine ⟨1, by go_num, by omega, ?_, B3.out⟩
          rw [HY.out, hbb]
          exact ⟨Ab, cb, rfl, hcb, O3.out⟩
    · go_wp2_with fail
      refine (HFit.out wr BB.out).mono ?_
      rintro ev w3 ⟨A3, c3, rfl, hc3, ho3, hb3⟩
      have hbb : (bestOf P F G 2) = if G.length < (bestOf P F G 1).length then G else (bestOf P F G 1) := rfl
      have O3 := Lib.hid (own_below O.out hb3)
      have OF := Lib.hid (ownbase ho3 hws)
      have B3 := Lib.hid (BB.out.trans (hb3.mono BB.out.size))
      clear ho3 hb3 O BB
      generalize hY : (bestOf P F G 2) = Y at *
      generalize (bestOf P F G 1) = X at *
      have HY := Lib.hid hY
      clear hY
      by_cases hlt : G.length < X.length
      · have hltI : (G.length : Int) < (X.length : Int) := by omega
        rw [if_pos hlt] at hbb
        go_wp2
        go_roundg (gk - 1)
        case measure => omega
        case rel =>
          refine ⟨2, by go_num, by omega, ?_, B3.out⟩
          rw [HY.out, hbb]
          exact ⟨A3, c3, rfl, hc3, OF.out⟩
      · have hltI : ¬ (G.length : Int) < (X.length : Int) := by omega
        rw [if_neg hlt] at hbb
        go_wp2
        go_roundg (gk - 1)
        case measure => omega
        case rel =>
          refine ⟨2, by go_num, by omega, ?_, B3.out⟩
          rw [HY.out, hbb]
          exact ⟨Ab, cb, rfl, hcb, O3.out⟩
    · go_wp2
      go_ret2
      refine ⟨_, rfl, ?_, B2.out.trans (BB.out.mono B2.out.size)⟩
      rw [HBest.out]
      exact ⟨Ab, cb, rfl, hcb, O.out⟩
theorem bound_any (n : Int) (w : World) (h : -9223372036854775808 ≤ n ∧ n ≤ 9223372036854775807) :
    Calls Tryz.prog 9 #[.int .i64 n] w fun ev w' => ev = .returned (.int .i64 (if n < 0 ∨ 65536 < n then 0 else n + 5 * (n / 65535 + 1) + 1)) ∧ w' = w := by
  go_enter Tryz.func9, Tryz.ntmps9
  by_cases h0 : n < 0
  · go_wp2
    go_ret
    exact ⟨rfl, rfl⟩
  by_cases h1 : 65536 < n
  · go_wp2
    go_ret
    exact ⟨rfl, rfl⟩
  · go_wp2
    go_ret
    exact ⟨rfl, rfl⟩
end Go.Proofs.YthmcdohndckniaaGreatDoor
