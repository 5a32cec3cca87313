/-
  The law HuffReads, walked.
-/
import Derived.Test.YtacidmamfkfipaaRefNext
import Derived.Test.YtacidmamfkfipaaAwake4
namespace Go.Proofs.Ytacidmamfkfipaa
open Go.RowKit
set_option linter.unusedVariables false

theorem bit_of {bs : List Int} (hB : Bytes bs) {i : Nat} (hi : i < 8 * bs.length) : ((bitsAt bs i 1 : Nat) : Int) = bs.getD (i / 8) 0 / 2 ^ (i % 8) % 2 := by
  have hlt : i / 8 < bs.length := by omega
  have hz := hB (bs.getD (i / 8) 0) (by simp [hlt])
  rw [bits_cut bs i 1 hB, show (i + 1 + 7) / 8 - i / 8 = 1 from by omega, List.drop_eq_getElem_cons hlt]
  have e : bs.getD (i / 8) 0 = bs[i / 8] := by simp [hlt]
  rw [e] at hz ⊢
  simp only [List.take_succ_cons, List.take_zero, leNum]
  obtain ⟨z, hz'⟩ : ∃ z : Nat, bs[i / 8] = z := ⟨bs[i / 8].toNat, by omega⟩
  rw [hz']
  simp
theorem bitsOf_snoc (bs : List Int) {i : Nat} (hi : i < 8 * bs.length) : (bitsOf bs).take (i + 1) = (bitsOf bs).take i ++ [(bitsAt bs i 1 : Int)] := by
  rw [take_snoc _ _ (by rw [bitsOf_len]; exact hi), bitsOf_at hi]

theorem and_one (z : Int) (q : Nat) (hz : 0 ≤ z ∧ z < 256) : bits .and .i64 (wrap64 (z / 2 ^ q)) 1 = z / 2 ^ q % 2 := by
  obtain ⟨a, rfl⟩ : ∃ a : Nat, z = a := ⟨z.toNat, by omega⟩
  have e3 : (a : Int) / 2 ^ q = ((a / 2 ^ q : Nat) : Int) := by push_cast; rfl
  have hle : a / 2 ^ q ≤ a := Nat.div_le_self _ _
  rw [e3]
  generalize a / 2 ^ q = y at *
  have h := bits_mask .i64 63 (by decide) (fun n h0 h1 => IntWalk.i64_in n (by omega)) 1 (by omega) (y : Int) (by omega) (by omega)
  rw [IntWalk.wrap64_in (y : Int) ⟨by omega, by omega⟩]
  simpa using h
theorem rd_empty {w : World} (A : Option Addr) {n : Nat} {zs : List Int} (hn : n = 0) (hz : zs.length = n) : RdI .i64 w A n zs := ⟨hz, fun h => by omega⟩
theorem rd_drop {w : World} {A : Option Addr} {n : Nat} {zs : List Int} (h : RdI .i64 w A n zs) (p : Nat) (hp : p ≤ n) : RdI .i64 w (A.map fun x => x.add p) (n - p) (zs.drop p) := by
  refine ⟨by rw [List.length_drop, h.1], fun hn => ?_⟩
  obtain ⟨b, off, rfl, hlt, hc⟩ := h.2 (by omega)
  refine ⟨b, off + p, by simp [Addr.add_mid], hlt, fun j hj => ?_⟩
  rw [Nat.add_assoc, hc (p + j) (by omega)]
  simp
def Rd1 (bs : List Int) (w : World) (v iv : Value) (wr : World) : Prop :=
  ∃ i : Nat, i ≤ 8 * bs.length ∧ iv = .int .i64 i ∧ wr.ownsRow w.heap.size 3 1 v i (((bitsOf bs).take i).map (Value.int .i64)) ∧ Below w.heap.size w wr
def Rd2 (zs bs : List Int) (g r : Nat) (B : Option Addr) (c : Nat) (w : World) (av iv : Value) (wr : World) : Prop :=
  ∃ i p : Nat, i ≤ 321 ∧ iv = .int .i64 i ∧ av = .int .i64 p ∧ p ≤ 8 * bs.length ∧ RdrOk wr r bs p ∧ DecOk wr g zs ∧ wr.ownsRow w.heap.size 3 1 (.slice B (8 * bs.length) c) (8 * bs.length) ((bitsOf bs).map (Value.int .i64)) ∧ Below w.heap.size w wr

set_option maxHeartbeats 3200000 in
theorem reads_walk (zs bs : List Int) (A B : Option Addr) (n m c1 c2 : Nat) (w : World) (ha : RdI .i64 w A n zs) (hb : RdI .u8 w B m bs) (hB : Bytes bs) (hn : n ≤ 9223372036854775807) (hm : m ≤ 9223372036854775807) :
    Calls Try.prog 7 #[.slice A n c1, .slice B m c2] w fun e w' => e = .returned (.bool true) ∧ Below w.heap.size w w' := by
  have HA := Lib.hid ha
  have HB := Lib.hid hb
  have hl := Lib.hid ha.1
  have hlb := Lib.hid hb.1
  have HBy := Lib.hid hB
  clear ha hb hB
  by_cases hbig : 300 < n
  · have hbI : (300 : Int) < n := by omega
    go_enter Try.func7, Try.ntmps7
    go_wp2_with (go_at_call 10; refine (awake4 _).mono ?_; rintro ev w1 ⟨rfl, hb1⟩; have HB1 := Lib.hid hb1; clear hb1)
    go_ret
    exact ⟨rfl, HB1.out⟩
  have hbI : ¬ (300 : Int) < n := by omega
  by_cases hbig2 : 40 < m
  · have hbI2 : (40 : Int) < m := by omega
    go_enter Try.func7, Try.ntmps7
    go_wp2_with (go_at_call 10; refine (awake4 _).mono ?_; rintro ev w1 ⟨rfl, hb1⟩; have HB1 := Lib.hid hb1; clear hb1)
    go_ret
    exact ⟨rfl, HB1.out⟩
  have hbI2 : ¬ (40 : Int) < m := by omega
  go_enter Try.func7, Try.ntmps7
  go_wp2_with (go_at_call 10; refine (awake4 _).mono ?_; rintro ev w1 ⟨rfl, hb1⟩; have HB1 := Lib.hid hb1; clear hb1)
  refine (new_any zs A n c1 w1 (HA.out.below HB1.out) (by omega)).mono ?_
  rintro ev w2 ⟨hor, hb2⟩
  have HB2 := Lib.hid (below_chain HB1.out hb2)
  clear hb2
  rcases hor with ⟨hok, rfl⟩ | ⟨hok, g, rfl, hg, hdec⟩
  · have HM : makesOf zs = false := by rw [makes_counts]; exact hok
    clear hok
    go_wp2_with fail
    refine (makes_any zs A n c1 w2 (HA.out.below HB2.out) (by omega)).mono ?_
    rintro ev w3 ⟨rfl, rfl⟩
    rw [HM]
    go_wp2
    go_ret
    exact ⟨rfl, HB2.out⟩
  have HM : makesOf zs = true := by rw [makes_counts]; exact hok
  have HOk := Lib.hid hok
  have HDc := Lib.hid hdec
  clear hok hdec hg
  go_wp2_with fail
  refine (makes_any zs A n c1 w2 (HA.out.below HB2.out) (by omega)).mono ?_
  rintro ev w3 ⟨rfl, rfl⟩
  rw [HM]
  clear HM
  go_wp2
  go_loopw [6, 7] (Rd1 bs w2) (fun _ i _ => 400 - (intOf i).toNat)
  case atStart => exact ⟨0, by omega, rfl, World.ownsRow_nil _ _ _ _, Below.refl _ _⟩
  case round =>
    obtain ⟨i, hi, rfl, ho, hbel⟩ := hrel
    have HO := Lib.hid ho
    have HBel := Lib.hid hbel
    clear ho hbel
    have hmI := hlb.out
    by_cases hlt : i < 8 * m
    · have hltI : (i : Int) < 8 * m := by omega
      obtain ⟨b, off, rfl, _, hc⟩ := (HB.out.below HB2.out).cell HBel.out (show i / 8 < m by omega)
      have hz := HBy.out (bs.getD (i / 8) 0) (by have : i / 8 < bs.length := by omega
                                                 simp [this])
      have HBit := Lib.hid (bit_of HBy.out (show i < 8 * bs.length by omega))
      generalize bs.getD (i / 8) 0 = z at *
      obtain ⟨A6, c6, hv, _⟩ := own_slice HO.out
      subst hv
      have hi320 : i < 320 := by omega
      go_wp2_with (refine app_int rfl (.tmp 40) (.tmp 52) rfl w2.heap.size _ i _ wr.heap.size _ 3 rfl (own_below HO.out ((Below.refl _ _).alloc (Nat.le_refl _) _)) rfl (Blk.made _ _ _) (by omega) (by have := HBel.out.size; simp; omega) ?_; intro g6 cap6 w6 ho6 hg6 hor6 hlt6; have HO6 := Lib.hid ho6; have HG6 := Lib.hid hg6; clear ho6 hg6 hor6)
      go_roundw
      case rel =>
        refine ⟨i + 1, by omega, by go_num, ?_, ?_⟩
        · rw [bitsOf_snoc bs (by omega), HBit.out, ← and_one z (i % 8) hz]
          exact HO6.out
        · exact (HBel.out.alloc HBel.out.size _).grown HG6.out (by have := HBel.out.size; simp; omega) (fun k hk => (HO.out.lt k hk).1)
      case measure => simp [intOf]; omega
    · have hltI : ¬ (i : Int) < 8 * m := by omega
      obtain rfl : i = 8 * m := by omega
      obtain ⟨A6, c6, hv, hc6⟩ := own_slice HO.out
      subst hv
      rw [List.take_of_length_le (by rw [bitsOf_len]; omega)] at HO
      go_wp2_with fail
      refine (newReader_any bs B m c2 wr ((HB.out.below HB2.out).below HBel.out) (by omega)).mono ?_
      rintro ev w3 ⟨r, rfl, hr3, hro, hb3⟩
      have HB3 := Lib.hid (below_chain HBel.out hb3)
      have HRo := Lib.hid hro
      have HBt := Lib.hid (own_below HO.out hb3)
      have HD3 := Lib.hid ((HDc.out.below HBel.out).below hb3)
      have hrw : w2.heap.size ≤ r := Nat.le_trans HBel.out.size hr3
      clear hb3 hro hr3 HO HBel
      go_wp2
      go_loopw [9, 10] (Rd2 zs bs g r A6 c6 w2) (fun _ i _ => 400 - (intOf i).toNat)
      case atStart => exact ⟨0, 0, by omega, rfl, rfl, by omega, HRo.out, HD3.out, by rw [hmI]; exact HBt.out, HB3.out⟩
      case round =>
        clear HRo HD3 HBt HB3
        obtain ⟨i, p, hi, rfl, rfl, hp, hr, hd, hbt, hbel⟩ := hrel
        have HR := Lib.hid hr
        have HD := Lib.hid hd
        have HT := Lib.hid hbt
        have HBel := Lib.hid hbel
        clear hr hd hbt hbel
        by_cases hlt : i ≤ 320
        · have hltI : (i : Int) ≤ 320 := by omega
          go_wp2_with fail
          refine (next_any zs bs r g p wr HR.out HD.out HOk.out HBy.out (by omega) hp).mono ?_
          rintro ev w4 ⟨rfl, hr4, hp4, hd4, hg4⟩
          have hpe : p ≤ 8 * m := by omega
          have h01 := (bitsOf_01 bs).drop p
          have hns := next_same h01 HOk.out
          obtain ⟨cs, hcs⟩ := HR.out.blk
          have HT4 := Lib.hid (HT.out.kept hg4 (rdr_apart hcs HT.out))
          have HBel4 := Lib.hid (bl_g HBel.out hg4 hrw)
          have HNS := Lib.hid hns
          have H01 := Lib.hid h01
          have HR4 := Lib.hid hr4
          have HD4 := Lib.hid hd4
          obtain ⟨so, k, hnx⟩ : ∃ so k, nextOf zs ((bitsOf bs).drop p) = (so, k) := ⟨_, _, rfl⟩
          rw [hnx] at hr4 hp4 HNS HR4 ⊢
          simp only at HR4 hp4
          clear hns h01 hnx hcs hg4 hr4 hd4
          have hpI : (p : Int) ≤ 8 * m := by omega
          have hcap : (p : Int) ≤ c6 := by omega
          have hk15 : p + k ≤ 8 * m := by omega
          have HRS := Lib.hid (rd_drop (RdI.of_own HT4.out) p hp)
          rw [hmI] at HRS
          by_cases hpc : p = c6
          · have H0 := Lib.hid (show 8 * m - p = 0 by omega)
            subst hpc
            go_wp2_with fail
            refine (rnext_any zs ((bitsOf bs).drop p) A _ n 0 c1 _ w4 ((HA.out.below HB2.out).below HBel4.out) (rd_empty _ rfl (by rw [List.length_drop, bitsOf_len, hmI]; exact H0.out)) HOk.out H01.out (by omega)).mono ?_
            rintro ev w5 ⟨rfl, hb5⟩
            rw [HNS.out]
            have HR5 := Lib.hid (HR4.out.below hb5)
            have HD5 := Lib.hid (HD4.out.below hb5)
            have HT5 := Lib.hid (own_below HT4.out hb5)
            have HBel5 := Lib.hid (below_chain HBel4.out hb5)
            clear hb5
            cases so with
            | none =>
              go_wp2_with (go_at_call 26; refine (at_any r (p + k) bs _ HR5.out).mono ?_; rintro ev w6 ⟨rfl, rfl⟩)
              go_ret
              exact ⟨rfl, below_chain HB2.out HBel5.out⟩
            | some s =>
              go_wp2_with (go_at_call 26; refine (at_any r (p + k) bs _ HR5.out).mono ?_; rintro ev w6 ⟨rfl, rfl⟩)
              go_roundw
              case rel => exact ⟨i + 1, p + k, by omega, by go_num, by go_num, hp4, HR5.out, HD5.out, HT5.out, HBel5.out⟩
              case measure => simp [intOf]; omega
          · have hpcI : ¬ (p : Int) = c6 := by omega
            go_wp2_with fail
            refine (rnext_any zs ((bitsOf bs).drop p) A _ n (8 * m - p) c1 _ w4 ((HA.out.below HB2.out).below HBel4.out) HRS.out HOk.out H01.out (by omega)).mono ?_
            rintro ev w5 ⟨rfl, hb5⟩
            rw [HNS.out]
            have HR5 := Lib.hid (HR4.out.below hb5)
            have HD5 := Lib.hid (HD4.out.below hb5)
            have HT5 := Lib.hid (own_below HT4.out hb5)
            have HBel5 := Lib.hid (below_chain HBel4.out hb5)
            clear hb5
            cases so with
            | none =>
              go_wp2_with (go_at_call 26; refine (at_any r (p + k) bs _ HR5.out).mono ?_; rintro ev w6 ⟨rfl, rfl⟩)
              go_ret
              exact ⟨rfl, below_chain HB2.out HBel5.out⟩
            | some s =>
              go_wp2_with (go_at_call 26; refine (at_any r (p + k) bs _ HR5.out).mono ?_; rintro ev w6 ⟨rfl, rfl⟩)
              go_roundw
              case rel => exact ⟨i + 1, p + k, by omega, by go_num, by go_num, hp4, HR5.out, HD5.out, HT5.out, HBel5.out⟩
              case measure => simp [intOf]; omega
        · have hltI : ¬ (i : Int) ≤ 320 := by omega
          go_wp2
          go_ret
          exact ⟨rfl, below_chain HB2.out HBel.out⟩
theorem bytes_wf {l : List Int} (h : ∀ n ∈ l, (Lit.int .u8 n).wf = true) : Bytes l := by
  intro z hz
  have := h z hz
  simp only [Lit.wf, decide_eq_true_eq, Bool.and_eq_true] at this
  simp [IntKind.min, IntKind.max, IntKind.bits, IntKind.signed] at this
  omega
end Go.Proofs.Ytacidmamfkfipaa
