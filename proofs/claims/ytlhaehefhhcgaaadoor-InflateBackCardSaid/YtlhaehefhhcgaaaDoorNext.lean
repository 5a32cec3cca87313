/-
  Decoder.Next, walked.
-/
import Derived.Test.YtlhaehefhhcgaaaDoorNextPlain
import Derived.Test.YtlhaehefhhcgaaaDoorBitio
namespace Go.Proofs.YtlhaehefhhcgaaaDoor
open Go.RowKit
set_option linter.unusedVariables false

/-- The bits of bytes, the lowest ones of a byte first. -/
def bitsOf (bs : List Int) : List Int := (List.range (8 * bs.length)).map fun i => (bitsAt bs i 1 : Int)
theorem bitsOf_len (bs : List Int) : (bitsOf bs).length = 8 * bs.length := by simp [bitsOf]
theorem bitsOf_at {bs : List Int} {i : Nat} (h : i < 8 * bs.length) : (bitsOf bs).getD i 0 = bitsAt bs i 1 := by simp [bitsOf, h]
theorem bitsAt_le (bs : List Int) (i : Nat) : bitsAt bs i 1 ≤ 1 := by unfold bitsAt; have := Nat.mod_lt (leNum bs / 2 ^ i) (show 0 < 2 ^ 1 by omega); omega
theorem bitsOf_01 (bs : List Int) : Bit01 (bitsOf bs) := by
  intro b hb
  simp only [bitsOf, List.mem_map] at hb
  obtain ⟨i, _, rfl⟩ := hb
  have := bitsAt_le bs i
  omega
theorem Bit01.drop {bt : List Int} (h : Bit01 bt) (p : Nat) : Bit01 (bt.drop p) := fun b hb => h b (List.mem_of_mem_drop hb)

theorem rdr_apart {w : World} {r : Nat} {cs : Array Value} {base n : Nat} {v : Value} {xs : List Value} (hb : Blk w r 103 cs) (h : w.ownsRow base 3 1 v n xs) : v.ownBlock = none ∨ v.ownBlock ≠ some r := by
  rcases h.2 with ⟨rfl, _⟩ | ⟨g', cap, cur, rfl, _, hg, _⟩
  · exact .inl rfl
  · refine .inr (fun he => ?_)
    simp only [Value.ownBlock, Option.some.injEq] at he
    subst he
    unfold Blk at hb
    rw [hg] at hb
    injection hb with hb
    injection hb with _ ht
    exact absurd ht (by decide)
/-- What a reader does leaves decoders alone. -/
theorem DecOk.grown {w w' : World} {g r : Nat} {zs : List Int} {cs : Array Value} (h : DecOk w g zs) (hb : Blk w r 103 cs) (hg : w.grownBy w' (some r)) : DecOk w' g zs := by
  obtain ⟨vs, h1, h2⟩ := h
  refine ⟨vs, h1.grown hg (fun he => ?_), fun l hl1 hl2 => (h2 l hl1 hl2).kept hg (rdr_apart hb (h2 l hl1 hl2))⟩
  injection he with he
  subst he
  unfold Blk at h1 hb
  rw [h1] at hb
  injection hb with hb
  injection hb with _ ht
  exact absurd ht (by decide)
theorem DecOk.below {w w' : World} {g : Nat} {zs : List Int} (h : DecOk w g zs) (hb : Below w.heap.size w w') : DecOk w' g zs := by
  obtain ⟨vs, h1, h2⟩ := h
  exact ⟨vs, h1.below hb h1.lt, fun l hl1 hl2 => own_below (h2 l hl1 hl2) hb⟩
theorem RdrOk.blk {w : World} {r p : Nat} {bs : List Int} (h : RdrOk w r bs p) : ∃ cs, Blk w r 103 cs := by
  obtain ⟨A, c, h, _⟩ := h
  exact ⟨_, h⟩

theorem dec_is {w : World} {g : Nat} {zs : List Int} (h : DecOk w g zs) : w.cell? ⟨g, 49, none⟩ = some (.bool true) := by
  obtain ⟨vs, hb, _⟩ := h
  exact hb.cell (by rw [rowOf_at (by omega)]; rfl)

def NextPost (zs bs : List Int) (r g p : Nat) (w : World) (e : Ending) (w' : World) : Prop :=
  e = .returned (.tuple #[.int .i64 ((nextOf zs ((bitsOf bs).drop p)).1.getD 0), .bool (nextOf zs ((bitsOf bs).drop p)).1.isSome]) ∧
    RdrOk w' r bs (p + (nextOf zs ((bitsOf bs).drop p)).2) ∧ p + (nextOf zs ((bitsOf bs).drop p)).2 ≤ 8 * bs.length ∧ DecOk w' g zs ∧ w.grownBy w' (some r)
def NextR (zs bs : List Int) (r g p : Nat) (w : World) (c l : Value) (wr : World) : Prop :=
  ∃ k : Nat, (k : Int) ≤ maxL zs ∧ l = .int .i64 (k + 1 : Nat) ∧ c = .int .i64 (codeB ((bitsOf bs).drop p) k) ∧ p + k ≤ 8 * bs.length ∧ RdrOk wr r bs (p + k) ∧ DecOk wr g zs ∧ w.grownBy wr (some r) ∧
    nextOf zs ((bitsOf bs).drop p) = nextGo zs ((bitsOf bs).drop p) ((maxL zs).toNat - k) k

set_option maxHeartbeats 1600000 in
theorem next_any (zs bs : List Int) (r g p : Nat) (w : World) (hr : RdrOk w r bs p) (hd : DecOk w g zs) (hok : countsOk zs = true) (hB : Bytes bs) (hl : bs.length ≤ 1000000000) (hp : p ≤ 8 * bs.length) :
    Calls Tryd.prog 90 #[.pointer (some ⟨g, 0, none⟩), .pointer (some ⟨r, 0, none⟩)] w (NextPost zs bs r g p w) := by
  have ht := dec_is hd
  have HR := Lib.hid hr
  have HD := Lib.hid hd
  have HOk := Lib.hid hok
  have HBy := Lib.hid hB
  have hm15 := maxL_hi hok zs.length
  rw [List.take_length] at hm15
  have hm0 := maxL_lo zs
  clear hr hd hok hB
  go_enter Tryd.func90, Tryd.ntmps90
  go_wp2
  clear ht
  go_loopw [6, 7] (NextR zs bs r g p w) (fun _ l _ => 20 - (intOf l).toNat)
  case atStart => exact ⟨0, by omega, rfl, rfl, by omega, HR.out, HD.out, World.grownBy.refl w _, rfl⟩
  case round =>
    obtain ⟨k, hk, rfl, rfl, hpk, hr, hd, hg, hnx⟩ := hrel
    have hbt := Lib.hid ((bitsOf_01 bs).drop p)
    obtain ⟨bt, hbteq⟩ : ∃ bt, bt = (bitsOf bs).drop p := ⟨_, rfl⟩
    have HBT := Lib.hid hbteq
    rw [← hbteq] at hnx hbt ⊢
    have HG := Lib.hid hg
    have HRr := Lib.hid hr
    have HDr := Lib.hid hd
    have HNX := Lib.hid hnx
    clear hg hr hd hnx hbteq
    obtain ⟨vs, hb, ho⟩ := HDr.out
    have HO := Lib.hid ho
    have HB := Lib.hid hb
    have hmost := hb.cell (i := 48) (v := .int .i64 (maxL zs)) (by rw [rowOf_at (by omega)]; rfl)
    clear hb ho
    by_cases hend : (k : Int) < maxL zs
    · have h1 : ((k + 1 : Nat) : Int) ≤ maxL zs := by omega
      go_wp2_with fail
      refine (get_any bs r (p + k) 1 wr HRr.out HBy.out hl hpk (by omega)).mono ?_
      rintro ev w1 (⟨hlt, rfl, hr1, hg1⟩ | ⟨hle, rfl, hr1, hg1⟩)
      · have HR1 := Lib.hid hr1
        have HG1 := Lib.hid (HG.out.trans hg1)
        obtain ⟨cs, hcs⟩ := HRr.out.blk
        have HD1 := Lib.hid (HDr.out.grown hcs hg1)
        clear hg1 hr1 hcs hmost
        go_wp2
        go_ret2
        have e : nextOf zs bt = (none, k) := by
          rw [HNX.out, show (maxL zs).toNat - k = ((maxL zs).toNat - k - 1) + 1 from by omega, nextGo, if_neg (by rw [HBT.out, List.length_drop, bitsOf_len]; omega)]
        have e' := HBT.out
        unfold NextPost
        rw [← e', e]
        exact ⟨rfl, HR1.out, by simp only; omega, HD1.out, HG1.out⟩
      · have HR1 := Lib.hid hr1
        have HG1 := Lib.hid (HG.out.trans hg1)
        obtain ⟨cs, hcs⟩ := HRr.out.blk
        have HD1 := Lib.hid (HDr.out.grown hcs hg1)
        clear hg1 hr1 hcs hmost HB HO vs
        obtain ⟨vs, hb, ho⟩ := HD1.out
        have hl15 : k + 1 ≤ 15 := by omega
        have hmost := hb.cell (i := 48) (v := .int .i64 (maxL zs)) (by rw [rowOf_at (by omega)]; rfl)
        have hcf := hb.cell (i := 16 + (k + 1)) (v := .int .i64 (firstAt zs (k + 1))) (by rw [rowOf_at (by omega)]; unfold decC; rw [if_neg (by omega), if_pos (by omega), show 16 + (k + 1) - 16 = k + 1 from by omega]; rfl)
        have hcn := hb.cell (i := k + 1) (v := .int .i64 (cntI zs (k + 1))) (by rw [rowOf_at (by omega)]; unfold decC; rw [if_pos (by omega)]; rfl)
        have hcs := hb.cell (i := 32 + (k + 1)) (v := vs (k + 1)) (by rw [rowOf_at (by omega), decC_row _ _ _ (by omega)])
        have ho1 := ho (k + 1) (by omega) (by omega)
        clear hb ho
        have hbb := bitsAt_le bs (p + k)
        have HC : Hid (codeB bt (k + 1) = 2 * codeB bt k + (bitsAt bs (p + k) 1 : Nat)) := by
          have : bt.getD k 0 = (bitsAt bs (p + k) 1 : Nat) := by
            rw [← bitsOf_at (by omega), HBT.out]
            simp
          show _ = _
          rw [codeB, this]
        have hcb := codeB_bd hbt.out k
        have hcb1 := codeB_bd hbt.out (k + 1)
        have hpw : (2 : Int) ^ k ≤ 32768 := (pow_bd k (by omega)).2
        have hfb := firstAt_bd' zs (len_of HOk.out) (k + 1) (by omega)
        have hcl := cntI_lo zs (k + 1)
        have hch := cntI_hi zs (k + 1)
        have hz288 := len_of HOk.out
        generalize bitsAt bs (p + k) 1 = b at *
        obtain ⟨A, c, hv, _⟩ := own_slice ho1
        rw [hv] at ho1 hcs
        have HO1 := Lib.hid ho1
        clear ho1 hv hcb1
        have hk16 : ((k : Int) + 1) < 16 := by omega
        have e0 : nextOf zs bt = if hit zs bt (k + 1) then (some (symAt zs bt (k + 1)), k + 1) else nextGo zs bt ((maxL zs).toNat - (k + 1)) (k + 1) := by
          rw [HNX.out, show (maxL zs).toNat - k = ((maxL zs).toNat - (k + 1)) + 1 from by omega, nextGo, if_pos (by rw [HBT.out, List.length_drop, bitsOf_len]; omega)]
        have HE := Lib.hid e0
        clear e0
        by_cases hh : hit zs bt (k + 1) = true
        · rw [hh, if_pos rfl] at HE
          have hh' := hh
          simp only [hit, Bool.and_eq_true, decide_eq_true_eq, HC.out] at hh'
          obtain ⟨hj0, hj1⟩ := hh'
          obtain ⟨j, hj⟩ : ∃ j : Nat, 2 * codeB bt k + b - firstAt zs (k + 1) = j := ⟨(2 * codeB bt k + b - firstAt zs (k + 1)).toNat, by omega⟩
          have hjc : j < cnt zs (k + 1) := by
            have : cntI zs (k + 1) = cnt zs (k + 1) := by unfold cntI; rw [if_neg (by omega)]
            omega
          have hrd := (RdI.of_own HO1.out).2 (by omega)
          obtain ⟨b2, off2, rfl, _, hcell⟩ := hrd
          have hcj := hcell j hjc
          have HSY : Hid (symAt zs bt (k + 1) = (symL zs (k + 1)).getD j 0) := by
            show _ = _
            unfold symAt
            rw [HC.out, show (2 * codeB bt k + (b : Int) - firstAt zs (k + 1)).toNat = j from by omega]
          clear hcell hh
          go_wp2
          go_ret2
          have e' := HBT.out
          unfold NextPost
          rw [← e', HE.out]
          refine ⟨?_, HR1.out, by simp only; omega, HD1.out, HG1.out⟩
          rw [HSY.out]
          simp
        · have hh2 : ¬ (0 ≤ 2 * codeB bt k + b - firstAt zs (k + 1)) ∨ ¬ (2 * codeB bt k + b - firstAt zs (k + 1) < cntI zs (k + 1)) := by
            simp only [hit, Bool.and_eq_true, decide_eq_true_eq, HC.out] at hh
            omega
          rw [if_neg hh] at HE
          clear hh
          rcases hh2 with h2 | h2
          · go_wp2
            go_roundw
            case rel => exact ⟨k + 1, by omega, by go_num, by rw [← HBT.out, HC.out], by omega, HR1.out, HD1.out, HG1.out, by rw [← HBT.out]; exact HE.out⟩
            case measure => simp [intOf]; omega
          · by_cases h3 : 0 ≤ 2 * codeB bt k + b - firstAt zs (k + 1)
            · go_wp2
              go_roundw
              case rel => exact ⟨k + 1, by omega, by go_num, by rw [← HBT.out, HC.out], by omega, HR1.out, HD1.out, HG1.out, by rw [← HBT.out]; exact HE.out⟩
              case measure => simp [intOf]; omega
            · omega
    · have h1 : ¬ ((k + 1 : Nat) : Int) ≤ maxL zs := by omega
      go_wp2
      go_ret2
      have e : nextOf zs bt = (none, k) := by
        rw [HNX.out, show (maxL zs).toNat - k = 0 from by omega]; rfl
      have e' := HBT.out
      unfold NextPost
      rw [← e', e]
      exact ⟨rfl, HRr.out, hpk, HDr.out, HG.out⟩
end Go.Proofs.YtlhaehefhhcgaaaDoor
