/-
  DeflateNumbers walked: its loops.
-/
import Derived.Test.YthmcdohndckniaaDoorLawDN
namespace Go.Proofs.YthmcdohndckniaaDoor
open Go.RowKit
set_option linter.unusedVariables false

def NmI (m : Nat) (w : World) (k : Nat) (iv : Value) (wr : World) : Prop := ∃ i : Nat, iv = .int .i64 (i : Int) ∧ i + k = m ∧ Below w.heap.size w wr
def endsL : List Int := [-9223372036854775808, -1, 0, 1, 65534, 65535, 65536, 65537, 9223372036854775807]
def NmE (g : Nat) (w : World) (k : Nat) (iv : Value) (wr : World) : Prop := ∃ i : Nat, iv = .int .i64 (i : Int) ∧ i + k = 9 ∧ RdI .i64 wr (some ⟨g, 0, none⟩) 9 endsL ∧ Below w.heap.size w wr
theorem ends_bd : ∀ i, i < 9 → -9223372036854775808 ≤ endsL.getD i 0 ∧ endsL.getD i 0 ≤ 9223372036854775807 := by decide
/-- What Deflate tells of some bytes. -/
theorem defl_some (b : List Int) (A : Option Addr) (n c : Nat) (w : World) (hr : RdI .u8 w A n b) (hB : ∀ z ∈ b, 0 ≤ z ∧ z < 256) (hn : n ≤ 65536) (hc : n ≤ c) (ht : DTabs w) :
    Calls Tryd.prog 9 #[.slice A n c] w fun ev w' => ∃ A2 c2 s, ev = .returned (.tuple #[.slice A2 s.length c2, .int .i64 0]) ∧ RdI .u8 w' A2 s.length s ∧ Reads s b ∧ s.length ≤ n + 5 * (n / 65536 + 1) ∧ Below w.heap.size w w' := by
  refine (deflate_any b A n c w hr hB hn hc ht).mono ?_
  rintro ev w2 ⟨v, rfl, ⟨A2, c2, rfl, hc2, ho⟩, hb⟩
  have hf := bestB_facts hB (by rw [hr.1]; exact hn)
  rw [hr.1] at hf
  exact ⟨A2, c2, bestB b, rfl, RdI.of_own ho, hf.1, hf.2.1, hb⟩
theorem one_rd (w : World) (t : TypeId) (z : Int) : RdI .u8 (w.alloc (.cells #[.int .u8 z] t)) (some ⟨w.heap.size, 0, none⟩) 1 [z] :=
  ⟨rfl, fun _ => ⟨_, 0, rfl, by simp, fun j hj => by
    obtain rfl : j = 0 := by omega
    exact (Blk.made w t #[.int .u8 z]).cell rfl⟩⟩
theorem ends_rd (w : World) (t : TypeId) : RdI .i64 (w.alloc (.cells (endsL.map (Value.int .i64)).toArray t)) (some ⟨w.heap.size, 0, none⟩) 9 endsL :=
  ⟨rfl, fun _ => ⟨_, 0, rfl, by simp, fun j hj => by
    rw [Nat.zero_add]
    refine (Blk.made w t _).cell ?_
    have h9 : endsL.length = 9 := rfl
    simp [show j < endsL.length by omega]⟩⟩
set_option maxHeartbeats 3200000 in
set_option maxRecDepth 100000 in
theorem numlaw_any (w : World) (ht : DTabs w) : Calls Tryd.prog 4 #[] w (TruePost w) := by
  have HT := Lib.hid ht
  clear ht
  go_enter Tryd.func4, Tryd.ntmps4
  go_wp2
  go_loopg [1] 256 (NmI 256 w)
  case atStart => exact ⟨0, rfl, rfl, Below.refl _ _⟩
  case round =>
    obtain ⟨i, rfl, hi, hb⟩ := hrel
    have B := Lib.hid hb
    clear hb
    by_cases hlt : i < 256
    · have hltI : (i : Int) < 256 := by omega
      have LA := (Below.refl wr.heap.size wr).alloc (Nat.le_refl _) (.cells #[.int .u8 (i : Int)] 5)
      have BA := Lib.hid (show Below w.heap.size w (wr.alloc (.cells #[.int .u8 (i : Int)] 5)) from B.out.alloc B.out.size _)
      have ho := Lib.hid (one_rd wr 5 (i : Int))
      have hby : ∀ z ∈ [(i : Int)], 0 ≤ z ∧ z < 256 := fun z hz => by
        obtain rfl : z = (i : Int) := by simpa using hz
        omega
      go_wp2_with fail
      refine (defl_some [(i : Int)] (some ⟨wr.heap.size, 0, none⟩) 1 1 _ ho.out hby (by omega) (by omega) (HT.out.below BA.out)).mono ?_
      rintro ev w2 ⟨A2, c2, s, rfl, hs, hrd, hsl, hb2⟩
      have HS := Lib.hid hs
      have HRd := Lib.hid hrd
      have HO2 := Lib.hid (ho.out.below hb2)
      have B2 := Lib.hid (show Below w.heap.size w w2 from BA.out.trans (hb2.mono BA.out.size))
      clear hs hrd hb2 BA LA ho
      go_wp2_with fail
      refine (says_any s [(i : Int)] A2 s.length c2 (some ⟨wr.heap.size, 0, none⟩) 1 1 w2 HS.out HO2.out HRd.out (by omega) (by omega)).mono ?_
      rintro ev w3 ⟨rfl, hb3⟩
      have B3 := Lib.hid (show Below w.heap.size w w3 from B2.out.trans (hb3.mono B2.out.size))
      clear hb3
      go_wp2
      go_roundg (gk - 1)
      case measure => omega
      case rel => exact ⟨i + 1, by go_num, by omega, B3.out⟩
    · have hltI : ¬ (i : Int) < 256 := by omega
      obtain ⟨wa, hwa⟩ : ∃ wa : World, wa = wr := ⟨_, rfl⟩
      subst hwa
      go_wp2
      go_loopg [5] 12 (NmI 12 w)
      case atStart => exact ⟨0, rfl, rfl, B.out⟩
      case round =>
        clear B
        obtain ⟨i, rfl, hi, hb⟩ := hrel
        have B := Lib.hid hb
        clear hb
        by_cases hlt : i < 12
        · have hltI : (i : Int) < 12 := by omega
          go_wp2_with fail
          refine (row_any 700 i wr (by omega) (by omega)).mono ?_
          rintro ev w2 ⟨v, rfl, ⟨g, zs, rfl, hoz, hzb⟩, hb2⟩
          have HZ := Lib.hid (RdI.of_own hoz)
          have HZb := Lib.hid hzb
          have B2 := Lib.hid (show Below w.heap.size w w2 from B.out.trans (hb2.mono B.out.size))
          clear hoz hzb hb2
          go_wp2_with fail
          refine (defl_some zs (some ⟨g, 0, none⟩) 700 700 w2 HZ.out HZb.out (by omega) (by omega) (HT.out.below B2.out)).mono ?_
          rintro ev w3 ⟨A3, c3, s, rfl, hs, hrd, hsl, hb3⟩
          have HS := Lib.hid hs
          have HRd := Lib.hid hrd
          have HZ3 := Lib.hid (HZ.out.below hb3)
          have B3 := Lib.hid (show Below w.heap.size w w3 from B2.out.trans (hb3.mono B2.out.size))
          have hsl2 : s.length ≤ 705 := by omega
          clear hs hrd hb3 hsl
          go_wp2_with fail
          refine (bound_any 700 w3 (by omega)).mono ?_
          rintro ev w4 ⟨rfl, rfl⟩
          rw [if_neg (by omega)]
          go_wp2_with fail
          refine (says_any s zs A3 s.length c3 (some ⟨g, 0, none⟩) 700 700 _ HS.out HZ3.out HRd.out (by omega) (by omega)).mono ?_
          rintro ev w5 ⟨rfl, hb5⟩
          have B5 := Lib.hid (show Below w.heap.size w w5 from B3.out.trans (hb5.mono B3.out.size))
          clear hb5
          go_wp2
          go_roundg (gk - 1)
          case measure => omega
          case rel => exact ⟨i + 1, by go_num, by omega, B5.out⟩
        · have hltI : ¬ (i : Int) < 12 := by omega
          obtain ⟨wb, hwb⟩ : ∃ wb : World, wb = wr := ⟨_, rfl⟩
          subst hwb
          go_wp2
          go_loopg [10] 9 (NmE wb.heap.size w)
          case atStart => exact ⟨0, rfl, rfl, ends_rd wb _, B.out.alloc B.out.size _⟩
          case round =>
            clear B
            obtain ⟨i, rfl, hi, hr, hb⟩ := hrel
            have B := Lib.hid hb
            have HR := Lib.hid hr
            clear hb
            by_cases hlt : i < 9
            · have hltI : (i : Int) < 9 := by omega
              obtain ⟨_, _, e, _, hc⟩ := hr.2 (by omega)
              injection e with e
              injection e with e1 e2
              subst e1 e2
              have q := hc i hlt
              rw [Nat.zero_add] at q
              have hbd := ends_bd i hlt
              generalize endsL.getD i 0 = z at q hbd
              clear hc hr
              go_wp2_with fail
              refine (boundlaw_any z wr (HT.out.below B.out) hbd).mono ?_
              rintro ev w2 ⟨rfl, hb2⟩
              have B2 := Lib.hid (show Below w.heap.size w w2 from B.out.trans (hb2.mono B.out.size))
              have HR2 := Lib.hid (HR.out.below hb2)
              clear hb2
              go_wp2
              go_roundg (gk - 1)
              case measure => omega
              case rel => exact ⟨i + 1, by go_num, by omega, HR2.out, B2.out⟩
            · have hltI : ¬ (i : Int) < 9 := by omega
              clear hr HR
              go_wp2_with fail
              refine (row_any 65536 0 wr (by omega) (by omega)).mono ?_
              rintro ev w2 ⟨v, rfl, ⟨g, zs, rfl, hoz, hzb⟩, hb2⟩
              have HZ := Lib.hid (RdI.of_own hoz)
              have HZb := Lib.hid hzb
              have B2 := Lib.hid (show Below w.heap.size w w2 from B.out.trans (hb2.mono B.out.size))
              clear hoz hzb hb2
              go_wp2_with fail
              refine (defl_some zs (some ⟨g, 0, none⟩) 65536 65536 w2 HZ.out HZb.out (by omega) (by omega) (HT.out.below B2.out)).mono ?_
              rintro ev w3 ⟨A3, c3, s, rfl, hs, hrd, hsl, hb3⟩
              have B3 := Lib.hid (show Below w.heap.size w w3 from B2.out.trans (hb3.mono B2.out.size))
              have hsl2 : (s.length : Int) ≤ 65547 := by omega
              clear hs hrd hb3 hsl
              go_wp2_with fail
              refine (awake07_any w3 (HT.out.below B3.out)).mono ?_
              rintro ev w4 ⟨rfl, hb4⟩
              have B4 := Lib.hid (show Below w.heap.size w w4 from B3.out.trans (hb4.mono B3.out.size))
              clear hb4
              go_wp2
              go_ret
              exact ⟨rfl, B4.out⟩
end Go.Proofs.YthmcdohndckniaaDoor
