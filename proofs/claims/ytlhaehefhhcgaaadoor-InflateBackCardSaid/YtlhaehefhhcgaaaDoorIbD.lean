/-
  peatbanklaw06.dynamic, walked.
-/
import Derived.Test.YtlhaehefhhcgaaaDoorIbP
namespace Go.Proofs.YtlhaehefhhcgaaaDoor
open Go.RowKit
set_option linter.unusedVariables false
set_option linter.unusedSimpArgs false

theorem WrStep.grown {w w1 w2 : World} {g gs : Nat} {o o1 : Option Nat} (h : WrStep w w1 g o o1) (hg : w1.grownBy w2 (some gs)) (hge : w.heap.size ≤ gs) : WrStep w w2 g o o1 := by
  refine ⟨hg.os.trans h.os, hg.tape.trans h.tape, hg.output.trans h.output, Nat.le_trans h.size hg.size, fun k h1 h2 h3 => ?_, h.own⟩
  rw [hg.block k (by have := h.size; omega) (by simp; omega)]
  exact h.block k h1 h2 h3
theorem sh_facts : ∀ i, i < 19 → 0 ≤ orderL.getD i 0 ∧ orderL.getD i 0 < 19 ∧ (if orderL.getD i 0 < 16 then (shSet shortL i).set (orderL.getD i 0).toNat 4 else shSet shortL i) = shSet shortL (i + 1) ∧
    (shSet shortL (i + 1)).getD (orderL.getD i 0).toNat 0 = shortL.getD (orderL.getD i 0).toNat 0 ∧ 0 ≤ shortL.getD (orderL.getD i 0).toNat 0 ∧ shortL.getD (orderL.getD i 0).toNat 0 < 8 := by decide +kernel
theorem sh_all : shSet shortL 19 = shortL := by decide +kernel
theorem sh_zero : (shSet shortL 0) = List.replicate 19 0 := rfl
theorem shB_succ (sh : List Int) (i : Nat) : shB sh (i + 1) = shB sh i ++ bitsL (sh.getD (orderL.getD i 0).toNat 0).toNat 3 := by
  unfold shB
  rw [List.range_succ, List.flatMap_append, List.flatMap_singleton]
def flatS (zs : List Int) : List Int := zs.flatMap fun z => litB shortL z.toNat
theorem flatS_succ {zs : List Int} {i : Nat} (hi : i < zs.length) : flatS (zs.take (i + 1)) = flatS (zs.take i) ++ litB shortL (zs.getD i 0).toNat := by
  have : zs[i]? = some (zs.getD i 0) := by rw [List.getD_eq_getElem?_getD, List.getElem?_eq_getElem hi]; rfl
  unfold flatS
  rw [take_getq this, List.flatMap_append, List.flatMap_singleton]
theorem flatS_le : ∀ (zs : List Int), (∀ z ∈ zs, 0 ≤ z ∧ z < 16) → (flatS zs).length ≤ 15 * zs.length
  | [], _ => by simp [flatS]
  | z :: zs, h => by
    have ih := flatS_le zs (fun y hy => h y (by simp [hy]))
    have hz := h z (by simp)
    have h1 := litB_le short_ok (s := z.toNat) (by rw [short_len]; omega)
    unfold flatS at *
    simp only [List.flatMap_cons, List.length_append, List.length_cons] at *
    omega
def IbSh (bt : List Int) (g gs go : Nat) (zs ds : List Int) (A1 B1 : Option Addr) (c1 d1 : Nat) (w0 w : World) (own : Option Nat) (k : Nat) (iv : Value) (wr : World) : Prop :=
  ∃ (i : Nat) (own' : Option Nat), iv = .int .i64 (i : Int) ∧ i + k = 19 ∧ WrOk wr g own' (bt ++ shB shortL i) ∧ WrStep w wr g own own' ∧ wr.ownsRow w.heap.size 3 1 (.slice (some ⟨gs, 0, none⟩) 19 19) 19 ((shSet shortL i).map (Value.int .i64)) ∧
    IntRow wr zs A1 286 c1 ∧ IntRow wr ds B1 30 d1 ∧ Blk wr go 3 (orderL.map (Value.int .i64)).toArray
def IbL (bt : List Int) (g : Nat) (own : Option Nat) (zs : List Int) (w : World) (k : Nat) (iv : Value) (wr : World) : Prop :=
  ∃ (i : Nat) (own' : Option Nat), iv = .int .i64 (i : Int) ∧ i + k = zs.length ∧ WrOk wr g own' (bt ++ flatS (zs.take i)) ∧ WrStep w wr g own own'

set_option maxHeartbeats 6400000 in
set_option maxRecDepth 100000 in
theorem ibdynamic_any (bt : List Int) (g : Nat) (own : Option Nat) (l : List Pc) (A : Option Addr) (n c : Nat) (w0 w : World) (h : WrOk w g own bt) (hl : PSrc w0 A n c (l.map Pc.raw)) (hn : n ≤ 60000) (hf : ∀ p ∈ l, Fine p) (h0w : Below w0.heap.size w0 w) (hg : w0.heap.size ≤ g) (ho : Lo w0.heap.size own) (hbt : bt.length ≤ 700000000) :
    Calls Tryd.prog 23 #[.pointer (some ⟨g, 0, none⟩), .slice A n c] w (DPutPost bt g own (dynX l) w) := by
  have H := Lib.hid h
  have HL := Lib.hid hl
  have HF := Lib.hid hf
  have HO := Lib.hid ho
  have H0 := Lib.hid h0w
  have hln : l.length = n := by have := hl.len; simpa using this
  have hln' : l.length ≤ 65536 := by omega
  have QA := Lib.hid (okL hln')
  have QD := Lib.hid (okD hln')
  have fA := fitA_facts hln'
  have fD := fitD_facts hln'
  have FA1 := Lib.hid fA.1
  have FD1 := Lib.hid fD.1
  have FA2 := Lib.hid fA.2.1
  have FD2 := Lib.hid fD.2.1
  have FA3 := Lib.hid (show ∀ z ∈ fitA l, 0 ≤ z ∧ z < 16 from fun z hz => by have := fA.2.2.1 z hz; omega)
  have FD3 := Lib.hid (show ∀ z ∈ fitD l, 0 ≤ z ∧ z < 16 from fun z hz => by have := fD.2.2.1 z hz; omega)
  have onesL : 2 * (onesOf (freqL l)).length ≤ 1000000 := by
    have hok := okL hln'
    unfold lengthsOk at hok
    simp only [Bool.and_eq_true, decide_eq_true_eq] at hok
    have := (ones_facts _ hok.1.2).2.2.2
    have := freqL_len l
    omega
  have onesD : 2 * (onesOf (freqD l)).length ≤ 1000000 := by
    have hok := okD hln'
    unfold lengthsOk at hok
    simp only [Bool.and_eq_true, decide_eq_true_eq] at hok
    have := (ones_facts _ hok.1.2).2.2.2
    have := freqD_len l
    omega
  have HX := Lib.hid (show dynX l = bitsL 29 5 ++ (bitsL 29 5 ++ (bitsL 15 4 ++ (shB shortL 19 ++ (flatS (fitA l) ++ (flatS (fitD l) ++ pcsB (fitA l) (fitD l) l))))) from rfl)
  clear h hl hf ho h0w fA fD
  go_enter Tryd.func23, Tryd.ntmps23
  go_wp2_with fail
  refine (ibweights_any l A n c w (HL.out.below H0.out) (by omega) HF.out).mono ?_
  rintro ev w1 ⟨g0, g1, rfl, ho0, ho1, hb1⟩
  have B1 := Lib.hid hb1
  have O0 := Lib.hid ho0
  have O1 := Lib.hid ho1
  clear ho0 ho1 hb1
  go_wp2_with fail
  refine (lengths_any 1000000 stableSaid_all (Nat.le_refl _) (freqL l) _ 286 286 15 w1 (RdI.of_own O0.out) (by omega) (by omega) (.inl onesL)).mono ?_
  rintro ev w2 (⟨hno, _⟩ | ⟨_, A1, c1, rfl, hoA, hb2⟩)
  · rw [QA.out] at hno; cases hno
  have RA := Lib.hid (show IntRow w2 (fitA l) A1 286 c1 from own_low hoA)
  have B2 := Lib.hid (show Below w.heap.size w w2 from B1.out.trans (hb2.mono B1.out.size))
  have O1' := Lib.hid (own_below O1.out hb2)
  clear hoA hb2 O0 O1 B1
  go_wp2_with fail
  refine (lengths_any 1000000 stableSaid_all (Nat.le_refl _) (freqD l) _ 30 30 15 w2 (RdI.of_own O1'.out) (by omega) (by omega) (.inl onesD)).mono ?_
  rintro ev w3 (⟨hno, _⟩ | ⟨_, D1, d1, rfl, hoD, hb3⟩)
  · rw [QD.out] at hno; cases hno
  have RD := Lib.hid (show IntRow w3 (fitD l) D1 30 d1 from own_low hoD)
  have RA3 := Lib.hid (RA.out.below hb3)
  have B3 := Lib.hid (show Below w.heap.size w w3 from B2.out.trans (hb3.mono B2.out.size))
  clear hoD hb3 O1' RA B2 QA QD onesL onesD
  generalize fitA l = zs at *
  generalize fitD l = ds at *
  have W3 := Lib.hid (H.out.below B3.out)
  have S3 := Lib.hid (show WrStep w w3 g own own from WrStep.of_below B3.out)
  -- the head
  go_wp2_with fail
  refine (put_any bt g own 29 5 w3 W3.out (by omega) (by omega) (by omega)).mono ?_
  rintro ev w4 ⟨rfl, own4, ho4, hst4⟩
  have W4 := Lib.hid ho4
  have S4 := Lib.hid (S3.out.trans hst4)
  have RA4 := Lib.hid (RA3.out.step W3.out hst4)
  have RD4 := Lib.hid (RD.out.step W3.out hst4)
  clear ho4 hst4 RA3 RD W3 S3
  go_wp2_with fail
  refine (put_any (bt ++ bitsL 29 5) g own4 29 5 w4 W4.out (by omega) (by omega) (by rw [List.length_append, bitsL_len]; omega)).mono ?_
  rintro ev w5 ⟨rfl, own5, ho5, hst5⟩
  have W5 := Lib.hid ho5
  have S5 := Lib.hid (S4.out.trans hst5)
  have RA5 := Lib.hid (RA4.out.step W4.out hst5)
  have RD5 := Lib.hid (RD4.out.step W4.out hst5)
  clear ho5 hst5 RA4 RD4 W4 S4
  go_wp2_with fail
  refine (put_any (bt ++ bitsL 29 5 ++ bitsL 29 5) g own5 15 4 w5 W5.out (by omega) (by omega) (by rw [List.length_append, List.length_append, bitsL_len]; omega)).mono ?_
  rintro ev w6 ⟨rfl, own6, ho6, hst6⟩
  have W6 := Lib.hid ho6
  have S6 := Lib.hid (S5.out.trans hst6)
  have RA6 := Lib.hid (RA5.out.step W5.out hst6)
  have RD6 := Lib.hid (RD5.out.step W5.out hst6)
  clear ho6 hst6 RA5 RD5 W5 S5
  have hl1 : (bt ++ bitsL 29 5 ++ bitsL 29 5 ++ bitsL 15 4).length ≤ 700000014 := by rw [List.length_append, List.length_append, List.length_append, bitsL_len, bitsL_len]; omega
  have HX2 := Lib.hid (show bt ++ dynX l = ((bt ++ bitsL 29 5 ++ bitsL 29 5 ++ bitsL 15 4) ++ shB shortL 19 ++ flatS zs ++ flatS ds) ++ pcsB zs ds l by rw [HX.out]; simp only [List.append_assoc])
  generalize bt ++ bitsL 29 5 ++ bitsL 29 5 ++ bitsL 15 4 = bt1 at *
  go_wp2_with fail
  refine (rorder_any w6).mono ?_
  rintro ev w7 ⟨go, rfl, hgo, _, hb7⟩
  have T7 := Lib.hid hgo
  have W7 := Lib.hid (W6.out.below hb7)
  have S7 := Lib.hid (S6.out.trans (WrStep.of_below hb7))
  have RA7 := Lib.hid (RA6.out.below hb7)
  have RD7 := Lib.hid (RD6.out.below hb7)
  clear hgo hb7 RA6 RD6 W6 S6
  go_wp2_with (at_make; refine heldG ?_)
  unfold HeldG
  refine mk_ints rfl (.const (.int .i64 19)) (.const (.int .i64 19)) rfl w.heap.size 19 _ _ rfl rfl rfl rfl (by omega) S7.out.size ?_
  intro w8 ho8 hg8
  have hb8 : Below w7.heap.size w7 w8 := (Below.refl _ _).grown hg8 (Nat.le_refl _) (fun k hk => by cases hk)
  have O8 := Lib.hid ho8
  have T8 := Lib.hid (T7.out.below hb8 T7.out.lt)
  have W8 := Lib.hid (W7.out.below hb8)
  have S8 := Lib.hid (S7.out.trans (WrStep.of_below hb8))
  have RA8 := Lib.hid (RA7.out.below hb8)
  have RD8 := Lib.hid (RD7.out.below hb8)
  have LA := Lib.hid (show ∀ k, (Value.slice A1 286 c1).ownBlock = some k → k < w7.heap.size from fun k hk => (RA7.out.lt k hk).2)
  have LD := Lib.hid (show ∀ k, (Value.slice D1 30 d1).ownBlock = some k → k < w7.heap.size from fun k hk => (RD7.out.lt k hk).2)
  have hgo7 := T7.out.lt
  have hw7 := S7.out.size
  generalize w7.heap.size = gs at *
  clear ho8 hg8 hb8 T7 W7 S7 RA7 RD7
  go_wp2
  go_loopg [12] 19 (IbSh bt1 g gs go zs ds A1 D1 c1 d1 w0 w own)
  case atStart =>
    refine ⟨0, own6, rfl, rfl, ?_, S8.out, ?_, RA8.out, RD8.out, T8.out⟩
    · have := W8.out
      simpa [shB] using this
    · rw [sh_zero, List.map_replicate]
      exact O8.out
  case round =>
    clear W8 S8 O8 RA8 RD8 T8
    obtain ⟨i, own1, rfl, hi, hw, hst, hos, hra, hrd, htb⟩ := hrel
    by_cases hlt : i < 19
    · have hiI : (i : Int) < 19 := by omega
      have c1' := blk_tab htb (j := i) hlt
      obtain ⟨f1, f2, f3, f4, f5, f6⟩ := sh_facts i hlt
      obtain ⟨on, hon⟩ : ∃ on : Nat, orderL.getD i 0 = (on : Int) := ⟨(orderL.getD i 0).toNat, by omega⟩
      have HOn := Lib.hid hon
      rw [hon] at f1 f2 f3 f4 f5 f6 c1'
      rw [Int.toNat_natCast] at f3 f4 f5 f6
      obtain ⟨vn, hvn⟩ : ∃ vn : Nat, shortL.getD on 0 = (vn : Int) := ⟨(shortL.getD on 0).toNat, by omega⟩
      rw [hvn] at f4 f5 f6
      have FV := Lib.hid f4
      have HVn := Lib.hid hvn
      have F3 := Lib.hid f3
      clear hon f3 f4 hvn
      by_cases h16 : on < 16
      · have h16I : (on : Int) < 16 := by omega
        rw [if_pos h16I] at F3
        have q1 := hos.cellAt on (by omega)
        have q2 := hos.frozenAt on
        rw [ints_get (by rw [shSet_len]; omega)] at q1
        have hs := hos.stored on (.int .i64 4)
        obtain ⟨wx, hwx⟩ : ∃ wx, wx = wr.setCell ⟨gs, on, none⟩ (.int .i64 4) := ⟨_, rfl⟩
        rw [← hwx] at hs
        have OS : Hid (wx.ownsRow w.heap.size 3 1 (.slice (some ⟨gs, 0, none⟩) 19 19) 19 ((shSet shortL (i + 1)).map (Value.int .i64))) := by
          refine Lib.hid ?_
          rw [← F3.out, List.map_set]
          exact hs.1
        have WX := Lib.hid (hw.grown hos hs.2 (by decide) (by decide))
        have SX := Lib.hid (hst.grown hs.2 (by omega))
        have R1 := Lib.hid (show IntRow wx zs A1 286 c1 from hra.kept hs.2 (by cases hh : (Value.slice A1 286 c1).ownBlock with | none => exact .inl rfl | some k => refine .inr ?_; have := LA.out k hh; simp [Value.ownBlock]; omega))
        have R2 := Lib.hid (show IntRow wx ds D1 30 d1 from hrd.kept hs.2 (by cases hh : (Value.slice D1 30 d1).ownBlock with | none => exact .inl rfl | some k => refine .inr ?_; have := LD.out k hh; simp [Value.ownBlock]; omega))
        have TX := Lib.hid (htb.grown hs.2 (by simp [Value.ownBlock]; omega))
        have c2' := blk_tab TX.out (j := i) hlt
        rw [HOn.out, hwx] at c2'
        clear hs hw hst hos hra hrd htb
        have cS := OS.out.cellAt on (by omega)
        rw [ints_get (by rw [shSet_len]; omega), FV.out, hwx] at cS
        go_wp2_with fail
        rw [← hwx]
        clear hwx cS c2'
        refine (put_any (bt1 ++ shB shortL i) g own1 vn 3 wx WX.out (by omega) (by omega) (by rw [List.length_append, shB_len]; omega)).mono ?_
        rintro ev wy ⟨rfl, own2, ho2, hst2⟩
        have Y1 := Lib.hid ho2
        have Y2 := Lib.hid (SX.out.trans hst2)
        have Y3 := Lib.hid (hst2.keeps WX.out OS.out (by decide) (by decide))
        have Y4 := Lib.hid (R1.out.step WX.out hst2)
        have Y5 := Lib.hid (R2.out.step WX.out hst2)
        have Y6 := Lib.hid (hst2.blk WX.out TX.out (by decide) (by decide))
        clear ho2 hst2
        go_wp2
        go_roundg (gk - 1)
        case measure => omega
        case rel =>
          refine ⟨i + 1, own2, by go_num, by omega, ?_, Y2.out, Y3.out, Y4.out, Y5.out, Y6.out⟩
          have h2 := Y1.out
          rw [shB_succ, HOn.out, Int.toNat_natCast, HVn.out, Int.toNat_natCast, ← List.append_assoc]
          exact h2
      · have h16I : ¬ (on : Int) < 16 := by omega
        rw [if_neg h16I] at F3
        rw [F3.out] at hos
        have OS := Lib.hid hos
        have WX := Lib.hid hw
        have SX := Lib.hid hst
        have R1 := Lib.hid hra
        have R2 := Lib.hid hrd
        have TX := Lib.hid htb
        have cS := OS.out.cellAt on (by omega)
        rw [ints_get (by rw [shSet_len]; omega), FV.out] at cS
        clear hw hst hos hra hrd htb
        go_wp2_with fail
        generalize wr = wx at *
        clear cS c1'
        refine (put_any (bt1 ++ shB shortL i) g own1 vn 3 wx WX.out (by omega) (by omega) (by rw [List.length_append, shB_len]; omega)).mono ?_
        rintro ev wy ⟨rfl, own2, ho2, hst2⟩
        have Y1 := Lib.hid ho2
        have Y2 := Lib.hid (SX.out.trans hst2)
        have Y3 := Lib.hid (hst2.keeps WX.out OS.out (by decide) (by decide))
        have Y4 := Lib.hid (R1.out.step WX.out hst2)
        have Y5 := Lib.hid (R2.out.step WX.out hst2)
        have Y6 := Lib.hid (hst2.blk WX.out TX.out (by decide) (by decide))
        clear ho2 hst2
        go_wp2
        go_roundg (gk - 1)
        case measure => omega
        case rel =>
          refine ⟨i + 1, own2, by go_num, by omega, ?_, Y2.out, Y3.out, Y4.out, Y5.out, Y6.out⟩
          have h2 := Y1.out
          rw [shB_succ, HOn.out, Int.toNat_natCast, HVn.out, Int.toNat_natCast, ← List.append_assoc]
          exact h2
    · obtain rfl : i = 19 := by omega
      rw [sh_all] at hos
      have W9 := Lib.hid hw
      have S9 := Lib.hid hst
      have R1 := Lib.hid hra
      have R2 := Lib.hid hrd
      have RS := Lib.hid (show IntRow wr shortL (some ⟨gs, 0, none⟩) 19 19 from own_low hos)
      clear hw hst hos hra hrd htb
      go_wp2_with fail
      refine (ibcodes_any shortL _ 19 19 wr RS.out short_ok (by omega)).mono ?_
      rintro ev wa ⟨SA, sc, rfl, hk, hba⟩
      have K1 := Lib.hid hk
      have Wa := Lib.hid (W9.out.below hba)
      have Sa := Lib.hid (S9.out.trans (WrStep.of_below hba))
      have Ra := Lib.hid (R1.out.below hba)
      have Rb := Lib.hid (R2.out.below hba)
      have hl2 : (bt1 ++ shB shortL 19).length ≤ 700000100 := by rw [List.length_append, shB_len]; omega
      generalize bt1 ++ shB shortL 19 = bt2 at *
      clear hk hba W9 S9 R1 R2 RS
      go_wp2
      go_loopg [15] 286 (IbL bt2 g own1 zs wa)
      case atStart => exact ⟨0, own1, rfl, by have := FA2.out; omega, by simpa [flatS] using Wa.out, WrStep.refl _ _ _⟩
      case round =>
        obtain ⟨i, own1, rfl, hi, hw, hst⟩ := hrel
        have HW := Lib.hid hw
        have HS := Lib.hid hst
        have ZR := Lib.hid (Ra.out.step Wa.out hst)
        have ZK := Lib.hid (K1.out.step Wa.out hst)
        clear hw hst
        by_cases hlt : i < 286
        · have hiI : (i : Int) < 286 := by omega
          have hzi : i < zs.length := by have := ZR.out.len; omega
          have hb := FA3.out (zs.getD i 0) (by rw [List.getD_eq_getElem?_getD, List.getElem?_eq_getElem hzi]; exact List.getElem_mem hzi)
          have hfl := flatS_le (zs.take i) (fun z hz => FA3.out z (List.mem_of_mem_take hz))
          rw [List.length_take] at hfl
          obtain ⟨ga, ca, hva, _, hlta⟩ := World.ownsRow.form ZR.out (by omega)
          injection hva with hA _ hcA
          subst hA hcA
          have cz := ZR.out.cellAt i (by have := ZR.out.len; omega)
          rw [ints_get hzi] at cz
          have FS := Lib.hid (flatS_succ hzi)
          generalize zs.getD i 0 = z at *
          obtain ⟨zn, rfl⟩ : ∃ zn : Nat, z = zn := ⟨z.toNat, by omega⟩
          rw [Int.toNat_natCast] at FS
          go_wp2_with fail
          refine (ibcode_any (bt2 ++ flatS (zs.take i)) g own1 shortL _ _ 19 _ _ zn wr HW.out ZK.out short_ok (by omega) (by omega) (by rw [List.length_append]; omega)).mono ?_
          rintro ev wy ⟨rfl, own2, ho2, hst2⟩
          have Y1 := Lib.hid ho2
          have Y2 := Lib.hid (HS.out.trans hst2)
          clear ho2 hst2
          go_wp2
          go_roundg (gk - 1)
          case measure => omega
          case rel =>
            refine ⟨i + 1, own2, by go_num, by omega, ?_, Y2.out⟩
            have h2 := Y1.out
            rw [FS.out, ← List.append_assoc]
            exact h2
        · obtain rfl : i = 286 := by have := FA2.out; omega
          have hw := HW.out
          rw [List.take_of_length_le (by have := FA2.out; omega)] at hw
          have hfl := flatS_le zs FA3.out
          have hl3 : (bt2 ++ flatS zs).length ≤ 700010000 := by rw [List.length_append]; have := FA2.out; omega
          have Wb := Lib.hid hw
          have Sb := Lib.hid (Sa.out.trans HS.out)
          have Rb2 := Lib.hid (Rb.out.step Wa.out HS.out)
          have Ra2 := Lib.hid (Ra.out.step Wa.out HS.out)
          generalize bt2 ++ flatS zs = bt3 at *
          have ZK0 := ZK
          clear hw HW HS Wa Sa Ra Rb K1 ZK ZR
          go_wp2
          go_loopg [16] 30 (IbL bt3 g own1 ds wr)
          case atStart => exact ⟨0, own1, rfl, by have := FD2.out; omega, by simpa [flatS] using Wb.out, WrStep.refl _ _ _⟩
          case round =>
            obtain ⟨i, own1, rfl, hi, hw, hst⟩ := hrel
            have HW := Lib.hid hw
            have HS := Lib.hid hst
            have ZR := Lib.hid (Rb2.out.step Wb.out hst)
            have ZK := Lib.hid (ZK0.out.step Wb.out hst)
            clear hw hst
            by_cases hlt : i < 30
            · have hiI : (i : Int) < 30 := by omega
              have hzi : i < ds.length := by have := ZR.out.len; omega
              have hb := FD3.out (ds.getD i 0) (by rw [List.getD_eq_getElem?_getD, List.getElem?_eq_getElem hzi]; exact List.getElem_mem hzi)
              have hfl := flatS_le (ds.take i) (fun z hz => FD3.out z (List.mem_of_mem_take hz))
              rw [List.length_take] at hfl
              obtain ⟨ga, ca, hva, _, hlta⟩ := World.ownsRow.form ZR.out (by omega)
              injection hva with hA _ hcA
              subst hA hcA
              have cz := ZR.out.cellAt i (by have := ZR.out.len; omega)
              rw [ints_get hzi] at cz
              have FS := Lib.hid (flatS_succ hzi)
              generalize ds.getD i 0 = z at *
              obtain ⟨zn, rfl⟩ : ∃ zn : Nat, z = zn := ⟨z.toNat, by omega⟩
              rw [Int.toNat_natCast] at FS
              go_wp2_with fail
              refine (ibcode_any (bt3 ++ flatS (ds.take i)) g own1 shortL _ _ 19 _ _ zn wr HW.out ZK.out short_ok (by omega) (by omega) (by rw [List.length_append]; omega)).mono ?_
              rintro ev wy ⟨rfl, own2, ho2, hst2⟩
              have Y1 := Lib.hid ho2
              have Y2 := Lib.hid (HS.out.trans hst2)
              clear ho2 hst2
              go_wp2
              go_roundg (gk - 1)
              case measure => omega
              case rel =>
                refine ⟨i + 1, own2, by go_num, by omega, ?_, Y2.out⟩
                have h2 := Y1.out
                rw [FS.out, ← List.append_assoc]
                exact h2
            · obtain rfl : i = 30 := by have := FD2.out; omega
              have hw2 := HW.out
              rw [List.take_of_length_le (by have := FD2.out; omega)] at hw2
              have hfl2 := flatS_le ds FD3.out
              have hl4 : (bt3 ++ flatS ds).length ≤ 700020000 := by rw [List.length_append]; have := FD2.out; omega
              have Wc := Lib.hid hw2
              have Sc := Lib.hid (Sb.out.trans HS.out)
              have Rb3 := Lib.hid (Rb2.out.step Wb.out HS.out)
              have Ra3 := Lib.hid (Ra2.out.step Wb.out HS.out)
              have E0 := Lib.hid (show Below w0.heap.size w0 wr from H0.out.trans (Sc.out.below hg HO.out H0.out.size))
              have Eo := Lib.hid (Sc.out.lo HO.out H0.out.size)
              generalize bt3 ++ flatS ds = bt4 at *
              clear hw2 HW HS Wb Sb Ra2 Rb2 ZK0 ZK ZR
              go_wp2_with fail
              refine (ibpieces_any bt4 g own1 zs ds A1 D1 286 c1 30 d1 l A n c w0 wr Wc.out Ra3.out Rb3.out FA1.out FD1.out (by omega) (by omega) HL.out (by omega) HF.out E0.out hg Eo.out (by omega)).mono ?_
              rintro ev wz ⟨rfl, own9, ho9, hst9⟩
              have Y1 := Lib.hid ho9
              have Y2 := Lib.hid (Sc.out.trans hst9)
              clear ho9 hst9
              go_wp2
              go_end0
              refine ⟨rfl, own9, ?_, Y2.out⟩
              rw [HX2.out]
              exact Y1.out
end Go.Proofs.YtlhaehefhhcgaaaDoor
