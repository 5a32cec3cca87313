/-
  The law HuffBack, walked.
-/
import Derived.Test.YtacidmamfkfipaaWriter
import Derived.Test.YtacidmamfkfipaaLawTurned
namespace Go.Proofs.Ytacidmamfkfipaa
open Go.RowKit
set_option linter.unusedVariables false

theorem bit_of_code (c k : Nat) (hc : c < 32768) : bits .and .u32 ((c : Int) / 2 ^ k % 4294967296) 1 = ((c / 2 ^ k % 2 : Nat) : Int) := by
  have e3 : (c : Int) / 2 ^ k = ((c / 2 ^ k : Nat) : Int) := by push_cast; rfl
  have hle : c / 2 ^ k ≤ c := Nat.div_le_self _ _
  rw [e3]
  generalize c / 2 ^ k = y at *
  have e4 : (y : Int) % 4294967296 = y := by omega
  have h := bits_mask .u32 31 (by decide) (fun n h0 h1 => by rw [IntKind.wrap_u32]; omega) 1 (by omega) (y : Int) (by omega) (by omega)
  rw [e4, show (1 : Int) = 2 ^ 1 - 1 from rfl, h]
  omega
def WritePost (bt : List Int) (g : Nat) (own : Option Nat) (c n : Nat) (w : World) (e : Ending) (w' : World) : Prop :=
  e = .returned (.tuple #[]) ∧ ∃ own', WrOk w' g own' (bt ++ codeBits c n) ∧ WrStep w w' g own own'
def Wt1 (bt : List Int) (g : Nat) (own : Option Nat) (c n : Nat) (w : World) (iv : Value) (wr : World) : Prop :=
  ∃ (k : Nat) (b1 : List Int) (own' : Option Nat), k ≤ n ∧ iv = .int .i64 ((k : Int) - 1) ∧ b1 ++ codeBits c k = bt ++ codeBits c n ∧ WrOk wr g own' b1 ∧ WrStep w wr g own own'

set_option maxHeartbeats 1600000 in
theorem write_any (bt : List Int) (g : Nat) (own : Option Nat) (c n : Nat) (w : World) (h : WrOk w g own bt) (hc : c < 32768) (hn : n ≤ 15) (hl : bt.length ≤ 900000000) :
    Calls Try.prog 28 #[.pointer (some ⟨g, 0, none⟩), .int .i64 (c : Int), .int .i64 (n : Int)] w (WritePost bt g own c n w) := by
  have H := Lib.hid h
  clear h
  go_enter Try.func28, Try.ntmps28
  go_wp2
  go_loopw [6] (Wt1 bt g own c n w) (fun i _ => (intOf i + 1).toNat)
  case atStart => exact ⟨n, bt, own, Nat.le_refl _, rfl, rfl, H.out, WrStep.refl _ _ _⟩
  case round =>
    obtain ⟨k, b1, own1, hk, rfl, hb, ho, hst⟩ := hrel
    have hlen : b1.length ≤ 1000000000 := by
      have := congrArg List.length hb
      simp only [List.length_append, codeBits_len] at this
      omega
    have HBe := Lib.hid hb
    have HO := Lib.hid ho
    have HSt := Lib.hid hst
    clear hb ho hst
    by_cases h0 : k = 0
    · subst h0
      go_wp2
      go_end0
      refine ⟨rfl, own1, ?_, HSt.out⟩
      have := HBe.out
      simp only [codeBits, List.append_nil] at this
      rw [← this]; exact HO.out
    · obtain ⟨j, rfl⟩ : ∃ j, k = j + 1 := ⟨k - 1, by omega⟩
      have e1 : ((j + 1 : Nat) : Int) - 1 = j := by omega
      rw [e1]
      have HBC := Lib.hid (bit_of_code c j hc)
      go_wp2_with fail
      rw [HBC.out]
      have hb2 : c / 2 ^ j % 2 < 2 := Nat.mod_lt _ (by omega)
      have HNx := Lib.hid (show b1 ++ bitsL (c / 2 ^ j % 2) 1 ++ codeBits c j = bt ++ codeBits c n by
        rw [← HBe.out]
        simp [codeBits, bitsL])
      refine (put_any b1 g own1 (c / 2 ^ j % 2) 1 wr HO.out (by omega) (by omega) hlen).mono ?_
      rintro ev w1 ⟨rfl, own2, ho2, hst2⟩
      have HO2 := Lib.hid ho2
      have HS2 := Lib.hid (HSt.out.trans hst2)
      clear ho2 hst2
      go_wp2
      go_roundw
      case rel => exact ⟨j, b1 ++ bitsL (c / 2 ^ j % 2) 1, own2, by omega, by go_num, HNx.out, HO2.out, HS2.out⟩
      case measure => simp [intOf]

/-! ### What is written, in plain words -/
def bitsFor (zs : List Int) (W : List Int) : List Int := W.flatMap fun s => codeBits (codeAt zs s.toNat).toNat (zs.getD s.toNat 0).toNat
def Syms (zs : List Int) (W : List Int) : Prop := ∀ s ∈ W, ∃ k : Nat, s = k ∧ k < zs.length ∧ 0 < zs.getD k 0
theorem bitsFor_snoc (zs W : List Int) (s : Int) : bitsFor zs (W ++ [s]) = bitsFor zs W ++ codeBits (codeAt zs s.toNat).toNat (zs.getD s.toNat 0).toNat := by simp [bitsFor]
theorem bitsFor_append (zs W V : List Int) : bitsFor zs (W ++ V) = bitsFor zs W ++ bitsFor zs V := by simp [bitsFor]
theorem bitsFor_01 (zs W : List Int) : Bit01 (bitsFor zs W) := by
  intro x hx
  obtain ⟨s, _, hs⟩ := List.mem_flatMap.1 hx
  exact codeBits_01 _ _ x hs
theorem bitsFor_bd {zs : List Int} (hok : countsOk zs = true) : ∀ (W : List Int), Syms zs W → (bitsFor zs W).length ≤ 15 * W.length
  | [], _ => by simp [bitsFor]
  | s :: W, h => by
    have ih := bitsFor_bd hok W (fun x hx => h x (by simp [hx]))
    obtain ⟨k, rfl, hk, hp⟩ := h s (by simp)
    have := okLen_of hok hk
    simp only [bitsFor, List.flatMap_cons, List.length_append, List.length_cons, codeBits_len, Int.toNat_natCast] at *
    omega
theorem bitsFor_next {zs : List Int} (hok : countsOk zs = true) {W : List Int} (hW : Syms zs W) {i : Nat} (hi : i < W.length) (more : List Int) :
    nextOf zs ((bitsFor zs W ++ more).drop (bitsFor zs (W.take i)).length) = (some (W.getD i 0), (zs.getD (W.getD i 0).toNat 0).toNat) ∧ (bitsFor zs (W.take (i + 1))).length = (bitsFor zs (W.take i)).length + (zs.getD (W.getD i 0).toNat 0).toNat := by
  obtain ⟨k, e, hk, hp⟩ := hW (W.getD i 0) (by simp [hi])
  have h15 := okLen_of hok hk
  have e1 : W = W.take i ++ W.getD i 0 :: W.drop (i + 1) := by
    have h := List.take_append_drop i W
    rw [List.drop_eq_getElem_cons hi] at h
    have e2 : W.getD i 0 = W[i] := by simp [hi]
    rw [e2]; exact h.symm
  have e2 : bitsFor zs W = bitsFor zs (W.take i) ++ (codeBits (codeAt zs k).toNat (zs.getD k 0).toNat ++ bitsFor zs (W.drop (i + 1))) := by
    conv => lhs; rw [e1]
    rw [e]
    simp [bitsFor]
  constructor
  · rw [e2, List.append_assoc, List.drop_left, List.append_assoc, e, Int.toNat_natCast]
    exact next_code hok hk (by omega) (by omega) (by omega) _
  · rw [take_snoc W i hi, bitsFor_snoc, List.length_append, codeBits_len]

theorem WrOk.bit01 {w : World} {g : Nat} {own : Option Nat} {bt : List Int} (h : WrOk w g own bt) : Bit01 bt := by
  obtain ⟨_, _, _, _, _, _, _, _, _, _, h⟩ := h
  exact h
theorem WrOk.blk {w : World} {g : Nat} {own : Option Nat} {bt : List Int} (h : WrOk w g own bt) : ∃ cs, Blk w g 76 cs := by
  obtain ⟨_, _, _, _, ⟨h, _⟩, _⟩ := h
  exact ⟨_, h⟩
theorem int_wr_apart {w : World} {r : Nat} {cs : Array Value} {base n : Nat} {v : Value} {xs : List Value} (hb : Blk w r 76 cs) (h : w.ownsRow base 3 1 v n xs) : v.ownBlock = none ∨ v.ownBlock ≠ some r := by
  rcases h.2 with ⟨rfl, _⟩ | ⟨g', cap, cur, rfl, _, hg, _⟩
  · exact .inl rfl
  · refine .inr (fun he => ?_)
    simp only [Value.ownBlock, Option.some.injEq] at he
    subst he
    unfold Blk at hb
    rw [hg] at hb
    injection hb with hb
    injection hb with _ ht
    exact absurd ht (by decide)
/-- A row of numbers stays where a writer writes .. -/
theorem WrStep.keeps {w w' : World} {g : Nat} {own own' : Option Nat} {bt : List Int} {base n : Nat} {v : Value} {xs : List Value} (hst : WrStep w w' g own own') (hw : WrOk w g own bt) (h : w.ownsRow base 3 1 v n xs) : w'.ownsRow base 3 1 v n xs := by
  obtain ⟨v2, bs, rest, k, ⟨hb, ho, _⟩, hown, _⟩ := hw
  have a1 := int_wr_apart hb h
  have a2 := own_apart h ho (by decide)
  rw [hown] at a2
  refine ⟨h.1, h.2.imp id ?_⟩
  rintro ⟨g', cap, cur, rfl, h1, h2, h3⟩
  refine ⟨g', cap, cur, rfl, h1, (hst.block g' (Blk.lt (t := 3) (cs := cur) h2) ?_ ?_).trans h2, h3⟩
  · rintro rfl
    rcases a1 with a | a
    · simp [Value.ownBlock] at a
    · exact a rfl
  · intro e
    rcases a2 with a | a
    · simp [Value.ownBlock] at a
    · exact a e
/-- .. and a writer where such a row grows. -/
theorem WrOk.grown {w w' : World} {g : Nat} {own : Option Nat} {bt : List Int} {base n : Nat} {v : Value} {xs : List Value} (hw : WrOk w g own bt) (h : w.ownsRow base 3 1 v n xs) (hg : w.grownBy w' v.ownBlock) : WrOk w' g own bt := by
  obtain ⟨v2, bs, rest, k, ⟨hb, ho, hB⟩, h4⟩ := hw
  refine ⟨v2, bs, rest, k, ⟨hb.grown hg (fun e => ?_), ho.kept hg (own_apart ho h (by decide)), hB⟩, h4⟩
  rcases int_wr_apart hb h with a | a
  · rw [a] at e; cases e
  · exact a e.symm

theorem below_chainB {B : Nat} {a b c : World} (h : Below B a b) (k : Below B b.drew c) : Below B a c := h.drew.trans k
def Bk1 (zs : List Int) (m g : Nat) (w : World) (v bv iv : Value) (wr : World) : Prop :=
  ∃ (i : Nat) (W : List Int) (own : Option Nat), i ≤ m ∧ W.length ≤ i ∧ iv = .int .i64 i ∧ bv = .int .i64 ((bitsFor zs W).length : Nat) ∧ Syms zs W ∧ wr.ownsRow w.heap.size 3 1 v W.length (W.map (Value.int .i64)) ∧
    WrOk wr g own (bitsFor zs W) ∧ (∀ j, own = some j → w.heap.size ≤ j) ∧ Below w.heap.size w wr
def Bk2 (zs bs W : List Int) (A : Option Addr) (r gd : Nat) (w : World) (iv : Value) (wr : World) : Prop :=
  ∃ i : Nat, i ≤ W.length ∧ iv = .int .i64 i ∧ RdrOk wr r bs (bitsFor zs (W.take i)).length ∧ DecOk wr gd zs ∧ RdI .i64 wr A W.length W ∧ w.grownBy wr (some r)

set_option maxHeartbeats 4000000 in
set_option maxRecDepth 100000 in
theorem back_walk (l L : List Int) (A A' : Option Addr) (n cap m cap' : Nat) (most : Int) (w : World) (hr : RdI .i64 w A n l) (hr' : RdI .i64 w A' m L) (hn : n ≤ 9223372036854775807) (hm : m ≤ 9223372036854775807) (hms : -9223372036854775808 ≤ most ∧ most ≤ 9223372036854775807)
    (hL : ∀ z ∈ L, -9223372036854775808 ≤ z ∧ z ≤ 9223372036854775807) :
    Calls Try.prog 9 #[.slice A n cap, .int .i64 most, .slice A' m cap'] w fun e w' => e = .returned (.bool true) ∧ Below w.heap.size w w' := by
  have HR := Lib.hid hr
  have HL := Lib.hid hr.1
  have HR' := Lib.hid hr'
  have HL' := Lib.hid hr'.1
  have HLb := Lib.hid hL
  clear hr hr' hL
  by_cases hbig : 300 < n
  · have hb : decide ((300 : Int) < n) = true := by simp; omega
    go_enter Try.func9, Try.ntmps9
    go_wp2_with (go_at_call 10; refine (awake4 _).mono ?_; rintro ev w1 ⟨rfl, hb1⟩; have HB1 := Lib.hid hb1; clear hb1)
    go_ret
    exact ⟨rfl, HB1.out⟩
  have hb : decide ((300 : Int) < n) = false := by simp; omega
  by_cases hbig2 : 400 < m
  · have hb2 : decide ((400 : Int) < m) = true := by simp; omega
    go_enter Try.func9, Try.ntmps9
    go_wp2_with (go_at_call 10; refine (awake4 _).mono ?_; rintro ev w1 ⟨rfl, hb1⟩; have HB1 := Lib.hid hb1; clear hb1)
    go_ret
    exact ⟨rfl, HB1.out⟩
  have hb2 : decide ((400 : Int) < m) = false := by simp; omega
  cases hok : lengthsOk l most with
  | false =>
    have HOk := Lib.hid hok
    clear hok
    go_enter Try.func9, Try.ntmps9
    go_wp2_with (first
      | (go_at_call 10; refine (awake4 _).mono ?_; rintro ev w1 ⟨rfl, hb1⟩; have HB1 := Lib.hid hb1; clear hb1)
      | (go_at_call 14; refine (asked_any l A n cap most w1 (HR.out.below HB1.out) (by omega) hms).mono ?_; rintro ev w5 ⟨rfl, rfl⟩; rw [HOk.out]))
    go_ret
    exact ⟨rfl, HB1.out⟩
  | true =>
    have HOk := Lib.hid hok
    have HC := Lib.hid (show countsOk (lengthsOf l most.toNat) = true by rw [← makes_counts]; exact lens_makes hok)
    have HZL := Lib.hid (show (lengthsOf l most.toNat).length = n by rw [lens_len, HL.out])
    clear hok
    go_enter Try.func9, Try.ntmps9
    go_wp2_with (first
      | (go_at_call 10; refine (awake4 _).mono ?_; rintro ev w1 ⟨rfl, hb1⟩; have HB1 := Lib.hid hb1; clear hb1)
      | (go_at_call 14; refine (asked_any l A n cap most w1 (HR.out.below HB1.out) (by omega) hms).mono ?_; rintro ev w5 ⟨rfl, rfl⟩; rw [HOk.out])
      | fail)
    refine (lengths_any 1000000 stableSaid_all (Nat.le_refl _) l _ n cap most w1 (HR.out.below HB1.out) (by omega) hms (.inl (by have := ones_len_le l; have := HL.out; omega))).mono ?_
    rintro ev w2 (⟨hno, _⟩ | ⟨_, A2, c2, rfl, ho2, hb2⟩)
    · rw [HOk.out] at hno; cases hno
    have B2 := Lib.hid (below_chain HB1.out hb2)
    have Z2 := Lib.hid (RdI.of_own ho2)
    clear ho2 hb2
    generalize lengthsOf l most.toNat = zs at *
    go_wp2_with fail
    refine (codes_any zs A2 n c2 w2 Z2.out (by omega)).mono ?_
    rintro ev w3 (⟨hno, _⟩ | ⟨_, A3, c3, rfl, ho3, hb3⟩)
    · rw [HC.out] at hno; cases hno
    have B3 := Lib.hid (below_chain B2.out hb3)
    have Z3 := Lib.hid (Z2.out.below hb3)
    have C3 := Lib.hid (RdI.of_own ho3)
    clear ho3 hb3 Z2
    go_wp2_with fail
    refine (new_any zs A2 n c2 w3 Z3.out (by omega)).mono ?_
    rintro ev w4 ⟨hor, hb4⟩
    rcases hor with ⟨hno, _⟩ | ⟨_, gd, rfl, hgd, hdec⟩
    · rw [HC.out] at hno; cases hno
    have B4 := Lib.hid (below_chain B3.out hb4)
    have Z4 := Lib.hid (Z3.out.below hb4)
    have C4 := Lib.hid (C3.out.below hb4)
    have D4 := Lib.hid hdec
    clear hb4 hdec Z3 C3 hgd
    go_wp2_with (go_at_call 27; refine (newWriter_any w4).mono ?_; rintro ev w5 ⟨g, rfl, hg, hw5, hb5⟩; have W5 := Lib.hid hw5; have L5 := Lib.hid hb5; clear hb5 hw5)
    go_loopw [13, 14, 15] (Bk1 zs m g w4) (fun _ _ i _ => m - (intOf i).toNat)
    case atStart => exact ⟨0, [], none, by omega, by simp, rfl, rfl, fun s hs => by simp at hs, World.ownsRow_nil _ _ _ _, W5.out, (fun j hj => by cases hj), L5.out⟩
    case round =>
      obtain ⟨i, W, own, hi, hWi, rfl, rfl, hsy, ho, hw, hown, hbel⟩ := hrel
      have hbf := bitsFor_bd HC.out W hsy
      have HSy := Lib.hid hsy
      have HO := Lib.hid ho
      have HW := Lib.hid hw
      have HOwn := Lib.hid hown
      have HBel := Lib.hid hbel
      clear hsy ho hw hown hbel
      by_cases hlt : i < m ∧ 0 < n
      · obtain ⟨him, hn0⟩ := hlt
        have d1 : decide ((i : Int) < m) = true := by simp; omega
        have d1N : decide (i < m) = true := by simpa using him
        have d2 : decide ((0 : Int) < n) = true := by simp; omega
        have d2N : decide (0 < n) = true := by simpa using hn0
        have hbw := Lib.hid (below_chain B4.out HBel.out)
        obtain ⟨b, off, rfl, hblt⟩ := rd_some HR'.out (by omega)
        have q1 := rd_cell HR'.out hbw.out him
        have hxb := HLb.out (L.getD i 0) (by simp [show i < L.length by rw [HL'.out]; exact him])
        generalize L.getD i 0 = x at *
        have hpb := pick_bd x n (by omega)
        obtain ⟨s, hs⟩ : ∃ s : Nat, pickOf x n = s := ⟨(pickOf x n).toNat, by omega⟩
        have HP := Lib.hid hs
        have hsn : s < n := by omega
        clear hs hpb
        obtain ⟨b2, off2, rfl, hblt2⟩ := rd_some Z4.out (by omega)
        obtain ⟨b3, off3, rfl, hblt3⟩ := rd_some C4.out (by omega)
        have q2 := rd_cell Z4.out HBel.out hsn
        have q3 := rd_cell C4.out HBel.out hsn
        have hsz : s < zs.length := by rw [HZL.out]; exact hsn
        rw [show (codesOf zs).getD s 0 = codeAt zs s by simp [codesOf, hsz]] at q3
        have hz15 := okLen_of HC.out hsz
        have HCl := Lib.hid (fun h1 => code_lt HC.out (s := s) (n := (zs.getD s 0).toNat) hsz h1)
        have HSn := Lib.hid (bitsFor_snoc zs W s)
        rw [Int.toNat_natCast] at HSn
        have HSs : Hid (0 < zs.getD s 0 → Syms zs (W ++ [(s : Int)])) := fun hp y hy => by
          rcases List.mem_append.1 hy with hy | hy
          · exact HSy.out y hy
          · obtain rfl : y = (s : Int) := by simpa using hy
            exact ⟨s, rfl, hsz, hp⟩
        generalize hze : zs.getD s 0 = z at *
        generalize codeAt zs s = cc at *
        have HZe := Lib.hid hze
        clear hze
        by_cases hz0 : z = 0
        · have d3 : (z == 0) = true := by simpa using hz0
          go_wp2_with (go_at_call 19; refine (pick_any x n wr hxb (by omega)).mono ?_; rintro ev w6 ⟨rfl, rfl⟩; rw [HP.out])
          go_roundw
          case rel => exact ⟨i + 1, W, own, by omega, by omega, by go_num, rfl, HSy.out, HO.out, HW.out, HOwn.out, HBel.out⟩
          case measure => simp [intOf]; omega
        · have d3 : (z == 0) = false := by simpa using hz0
          obtain ⟨zn, rfl⟩ : ∃ zn : Nat, z = zn := ⟨z.toNat, by omega⟩
          have hcl := HCl.out (by omega) (by omega) (by omega)
          rw [Int.toNat_natCast] at hcl HSn
          obtain ⟨cn, rfl⟩ : ∃ cn : Nat, cc = cn := ⟨cc.toNat, by omega⟩
          rw [Int.toNat_natCast] at HSn
          have hcn : cn < 32768 := by
            have h1 : (2 : Nat) ^ zn ≤ 2 ^ 15 := Nat.pow_le_pow_right (by omega) (by omega)
            have h2 : ((2 ^ zn : Nat) : Int) = 2 ^ zn := by simp
            omega
          have hzn0 : 0 < zn := by omega
          replace HSs := Lib.hid (HSs.out (by omega))
          clear HCl hcl
          have hSl : (bitsFor zs (W ++ [(s : Int)])).length = (bitsFor zs W).length + zn := by rw [HSn.out, List.length_append, codeBits_len]
          have HSl := Lib.hid hSl
          clear hSl
          go_wp2_with (go_at_call 19; refine (pick_any x n wr hxb (by omega)).mono ?_; rintro ev w6 ⟨rfl, rfl⟩; rw [HP.out])
          refine wp_region_qs (fun j w' => j ≤ 0 → w'.cell? ⟨b2, off2 + s, none⟩ = some (.int .i64 (zn : Int)) ∧ w'.cell? ⟨b3, off3 + s, none⟩ = some (.int .i64 (cn : Int))) [(0, some 0), (1, some 1), (2, some 1), (3, some 1), (4, some 0), (5, some 1), (6, some 1), (7, some 1), (8, some 0), (9, none)] (by kernel_rfl) (by kernel_rfl) (by kernel_rfl) (by kernel_rfl) (by kernel_rfl) (fun _ _ _ _ _ h => h) (fun _ => ⟨q2, q3⟩) ?_
          simp only [List.map_cons, List.map_nil, List.getD_cons_succ, List.getD_cons_zero]
          (repeat (first | (refine qs_now (v := ?_) (by rfl) ?_ ?_; rotate_left 1; (· (intro w' hS; go_simp; (try (simp only [↓IntWalk.iteOmega]; go_simp)); (try simp (disch := omega) only [IntWalk.i64_in]); try with_reducible rfl)); simp only [Act.put, List.setIfInBounds_toArray, List.set_cons_zero, List.set_cons_succ]) | (refine qs_run (v := ?_) (by rfl) ?_ ?_; rotate_left 1; (· (intro j w' hS; go_simp; (try (simp only [↓IntWalk.iteOmega]; go_simp)); (try simp (disch := omega) only [IntWalk.i64_in]); try with_reducible rfl)); simp only [Act.put, List.setIfInBounds_toArray, List.set_cons_zero, List.set_cons_succ]) | (refine qs_mid (v := ?_) (by rfl) ?_ ?_; rotate_left 1; (· (intro j w' hj1 hj2 hS; go_simp; (try (simp only [↓IntWalk.iteOmega]; go_simp)); (try simp (disch := omega) only [IntWalk.i64_in]); try with_reducible rfl)); simp only [Act.put, List.setIfInBounds_toArray, List.set_cons_zero, List.set_cons_succ]) | (refine qs_skip (by rfl) ?_; simp only [Act.put, List.setIfInBounds_toArray, List.set_cons_zero, List.set_cons_succ])))
          refine qs_act ?_
          go_wp2_with fail
          refine (write_any (bitsFor zs W) g own cn zn wr.drew (show WrOk wr.drew g own (bitsFor zs W) from HW.out.below (Below.refl _ _).drew) hcn (by omega) (by omega)).mono ?_
          rintro ev w7 ⟨rfl, own7, hw7, hst7⟩
          rw [← HSn.out] at hw7
          have HW7 := Lib.hid hw7
          have O7 := Lib.hid (hst7.keeps (HW.out.below (Below.refl _ _).drew) (show wr.drew.ownsRow w4.heap.size 3 1 _ _ _ from HO.out))
          have L7 := Lib.hid (below_chainB HBel.out (hst7.below hg HOwn.out (show w4.heap.size ≤ wr.drew.heap.size from HBel.out.size)))
          have HOwn7 : Hid (∀ j, own7 = some j → w4.heap.size ≤ j) := fun j hj => by
            rcases hst7.own with e | ⟨k, e, hk⟩
            · exact HOwn.out j (by rw [← e, hj])
            · rw [hj] at e
              injection e with e
              have := HBel.out.size
              have h2 : wr.drew.heap.size = wr.heap.size := rfl
              omega
          clear hw7 hst7 HW HO HBel HOwn q1 q2 q3
          go_wp2
          refine ⟨fun h => absurd h (by omega), ?_⟩
          refine qs_nil ?_
          go_wp2_with (refine app_src rfl (.tmp 101) (.tmp 103) 22 rfl w4.heap.size 3 _ 1 8 Try.underlying22 infoInt rfl (by omega) _ W.length _ rfl (O7.out.alloc _) _ 1 [Value.int .i64 (s : Int)] rfl (src_one _ _ _) (by simp [Value.oneCell']) (by omega) (by omega) (by have := L7.out.size; simp; omega) ?_; intro v8 w8 ho8 hg8 hor8; have O8 := Lib.hid ho8; have L8 := Lib.hid ((L7.out.alloc L7.out.size _).grown hg8 (by have := L7.out.size; simp; omega) (fun k hk => (O7.out.lt k hk).1)); have HW8 := Lib.hid ((HW7.out.below ((Below.refl _ _).alloc (Nat.le_refl _) _)).grown (O7.out.alloc _) hg8); have q5 := rd_cell Z4.out L8.out hsn; rw [HZe.out] at q5; clear ho8 hg8 hor8)
          go_roundw
          case rel =>
            refine ⟨i + 1, W ++ [(s : Int)], own7, by omega, by simp; omega, by go_num, ?_, HSs.out, ?_, HW8.out, HOwn7.out, L8.out⟩
            · rw [HSl.out]; go_num
            · simpa using O8.out
          case measure => simp [intOf]; omega
      · have HBw := Lib.hid (below_chain B4.out HBel.out)
        have HDe := Lib.hid (D4.out.below HBel.out)
        have HWl : W.length ≤ 400 := by omega
        obtain ⟨AW, cW, hvW, _⟩ := own_slice HO.out
        subst hvW
        by_cases him : i < m
        · obtain rfl : n = 0 := by omega
          have d1 : decide ((i : Int) < m) = true := by simp; omega
          have d1N : decide (i < m) = true := by simpa using him
          go_wp2_with fail
          refine (wbytes_any (bitsFor zs W) g own wr HW.out (by omega)).mono ?_
          rintro ev w6 ⟨A6, c6, bs, rfl, ho6, hB6, hlen6, hnum6, hb6⟩
          have HB6 := Lib.hid (below_chain HBw.out hb6)
          have R6 := Lib.hid (RdI.of_own ho6)
          have O6 := Lib.hid (own_below HO.out hb6)
          have D6 := Lib.hid (HDe.out.below hb6)
          have HBy := Lib.hid hB6
          have hbl6 : bs.length ≤ 10000 := by omega
          have HPad := Lib.hid (bitsOf_pad hB6 (bitsFor_01 zs W) (by omega) hnum6)
          have hle6 : (bitsFor zs W).length ≤ 8 * bs.length := by omega
          clear ho6 hB6 hnum6 hb6 hlen6
          go_wp2_with fail
          refine (newReader_any bs A6 bs.length c6 w6 R6.out (by omega)).mono ?_
          rintro ev w7 ⟨r, rfl, hr7, hrd7, hb7⟩
          have HB7 := Lib.hid (below_chain HB6.out hb7)
          have O7 := Lib.hid (own_below O6.out hb7)
          have D7 := Lib.hid (D6.out.below hb7)
          have HRd7 := Lib.hid hrd7
          have hr7' : w.heap.size ≤ r := by have := HB6.out.size; omega
          clear hrd7 hb7 R6 O6 D6
          go_wp2
          go_loopw [18] (Bk2 zs bs W AW r gd w7) (fun i _ => W.length - (intOf i).toNat)
          case atStart => exact ⟨0, by omega, rfl, by simpa [bitsFor] using HRd7.out, D7.out, RdI.of_own O7.out, World.grownBy.refl _ _⟩
          case round =>
            obtain ⟨i, hi, rfl, hrd, hde, hrw, hgr⟩ := hrel
            have HRd := Lib.hid hrd
            have HDd := Lib.hid hde
            have HRw := Lib.hid hrw
            have HGr := Lib.hid hgr
            clear hrd hde hrw hgr
            by_cases hiW : i < W.length
            · have hiI : (i : Int) < W.length := by omega
              obtain ⟨hnx, hnl⟩ := bitsFor_next HC.out HSy.out hiW (List.replicate (8 * bs.length - (bitsFor zs W).length) 0)
              rw [← HPad.out] at hnx
              have HNx := Lib.hid hnx
              have HNl := Lib.hid hnl
              clear hnx hnl
              have hple : (bitsFor zs (W.take i)).length ≤ 8 * bs.length := by
                have h1 : bitsFor zs W = bitsFor zs (W.take i) ++ bitsFor zs (W.drop i) := by rw [← bitsFor_append, List.take_append_drop]
                have h2 := congrArg List.length h1
                rw [List.length_append] at h2
                omega
              go_wp2_with fail
              refine (next_any zs bs r gd _ wr HRd.out HDd.out HC.out HBy.out (by omega) hple).mono ?_
              rintro ev w8 ⟨rfl, hrd8, hp8, hde8, hg8⟩
              rw [HNx.out] at hrd8 hp8 ⊢
              rw [← HNl.out] at hrd8
              have HRd8 := Lib.hid hrd8
              have HDd8 := Lib.hid hde8
              have HG8 := Lib.hid (HGr.out.trans hg8)
              clear hrd8 hp8 hde8 hg8
              have O8 := Lib.hid (O7.out.kept HG8.out (by obtain ⟨cs, hcs⟩ := HRd7.out.blk; exact rdr_apart hcs O7.out))
              have R8 := Lib.hid (RdI.of_own O8.out)
              obtain ⟨b8, off8, rfl, hblt8⟩ := rd_some R8.out (by omega)
              have q8 := rd_cell R8.out (Below.refl _ _) hiW
              generalize W.getD i 0 = y at *
              have d8 : (y != y) = false := by simp
              simp only [Option.getD_some, Option.isSome_some]
              go_wp2
              go_roundw
              case rel => exact ⟨i + 1, by omega, by go_num, HRd8.out, HDd8.out, R8.out, HG8.out⟩
              case measure => simp [intOf]; omega
            · obtain rfl : i = W.length := by omega
              have HTk := Lib.hid (show W.take W.length = W from List.take_length)
              rw [HTk.out] at HRd
              go_wp2_with (go_at_call 26; refine (at_any r _ bs wr HRd.out).mono ?_; rintro ev w9 ⟨rfl, rfl⟩)
              go_ret
              exact ⟨by simp, bl_g HB7.out HGr.out hr7'⟩
        · have d1 : decide ((i : Int) < m) = false := by simp; omega
          have d1N : decide (i < m) = false := by simpa using him
          go_wp2_with fail
          refine (wbytes_any (bitsFor zs W) g own wr HW.out (by omega)).mono ?_
          rintro ev w6 ⟨A6, c6, bs, rfl, ho6, hB6, hlen6, hnum6, hb6⟩
          have HB6 := Lib.hid (below_chain HBw.out hb6)
          have R6 := Lib.hid (RdI.of_own ho6)
          have O6 := Lib.hid (own_below HO.out hb6)
          have D6 := Lib.hid (HDe.out.below hb6)
          have HBy := Lib.hid hB6
          have hbl6 : bs.length ≤ 10000 := by omega
          have HPad := Lib.hid (bitsOf_pad hB6 (bitsFor_01 zs W) (by omega) hnum6)
          have hle6 : (bitsFor zs W).length ≤ 8 * bs.length := by omega
          clear ho6 hB6 hnum6 hb6 hlen6
          go_wp2_with fail
          refine (newReader_any bs A6 bs.length c6 w6 R6.out (by omega)).mono ?_
          rintro ev w7 ⟨r, rfl, hr7, hrd7, hb7⟩
          have HB7 := Lib.hid (below_chain HB6.out hb7)
          have O7 := Lib.hid (own_below O6.out hb7)
          have D7 := Lib.hid (D6.out.below hb7)
          have HRd7 := Lib.hid hrd7
          have hr7' : w.heap.size ≤ r := by have := HB6.out.size; omega
          clear hrd7 hb7 R6 O6 D6
          go_wp2
          go_loopw [18] (Bk2 zs bs W AW r gd w7) (fun i _ => W.length - (intOf i).toNat)
          case atStart => exact ⟨0, by omega, rfl, by simpa [bitsFor] using HRd7.out, D7.out, RdI.of_own O7.out, World.grownBy.refl _ _⟩
          case round =>
            obtain ⟨i, hi, rfl, hrd, hde, hrw, hgr⟩ := hrel
            have HRd := Lib.hid hrd
            have HDd := Lib.hid hde
            have HRw := Lib.hid hrw
            have HGr := Lib.hid hgr
            clear hrd hde hrw hgr
            by_cases hiW : i < W.length
            · have hiI : (i : Int) < W.length := by omega
              obtain ⟨hnx, hnl⟩ := bitsFor_next HC.out HSy.out hiW (List.replicate (8 * bs.length - (bitsFor zs W).length) 0)
              rw [← HPad.out] at hnx
              have HNx := Lib.hid hnx
              have HNl := Lib.hid hnl
              clear hnx hnl
              have hple : (bitsFor zs (W.take i)).length ≤ 8 * bs.length := by
                have h1 : bitsFor zs W = bitsFor zs (W.take i) ++ bitsFor zs (W.drop i) := by rw [← bitsFor_append, List.take_append_drop]
                have h2 := congrArg List.length h1
                rw [List.length_append] at h2
                omega
              go_wp2_with fail
              refine (next_any zs bs r gd _ wr HRd.out HDd.out HC.out HBy.out (by omega) hple).mono ?_
              rintro ev w8 ⟨rfl, hrd8, hp8, hde8, hg8⟩
              rw [HNx.out] at hrd8 hp8 ⊢
              rw [← HNl.out] at hrd8
              have HRd8 := Lib.hid hrd8
              have HDd8 := Lib.hid hde8
              have HG8 := Lib.hid (HGr.out.trans hg8)
              clear hrd8 hp8 hde8 hg8
              have O8 := Lib.hid (O7.out.kept HG8.out (by obtain ⟨cs, hcs⟩ := HRd7.out.blk; exact rdr_apart hcs O7.out))
              have R8 := Lib.hid (RdI.of_own O8.out)
              obtain ⟨b8, off8, rfl, hblt8⟩ := rd_some R8.out (by omega)
              have q8 := rd_cell R8.out (Below.refl _ _) hiW
              generalize W.getD i 0 = y at *
              have d8 : (y != y) = false := by simp
              simp only [Option.getD_some, Option.isSome_some]
              go_wp2
              go_roundw
              case rel => exact ⟨i + 1, by omega, by go_num, HRd8.out, HDd8.out, R8.out, HG8.out⟩
              case measure => simp [intOf]; omega
            · obtain rfl : i = W.length := by omega
              have HTk := Lib.hid (show W.take W.length = W from List.take_length)
              rw [HTk.out] at HRd
              go_wp2_with (go_at_call 26; refine (at_any r _ bs wr HRd.out).mono ?_; rintro ev w9 ⟨rfl, rfl⟩)
              go_ret
              exact ⟨by simp, bl_g HB7.out HGr.out hr7'⟩
end Go.Proofs.Ytacidmamfkfipaa
