/-
  The document's Asked and Cost (peatbankref04).
-/
import Derived.Test.YtacidmamfkfipaaRef04
import Derived.Test.YtacidmamfkfipaaLeastPlain
namespace Go.Proofs.Ytacidmamfkfipaa
open Go.RowKit
set_option linter.unusedVariables false

def A1 (l : List Int) (n : Nat) (m i : Value) : Prop := ∃ k : Nat, k ≤ n ∧ i = .int .i64 k ∧ m = .int .i64 ((onesOf (l.take k)).length : Nat) ∧ (l.take k).all fairF = true
theorem ones_snoc_len (l : List Int) (f : Int) : (onesOf (l ++ [f])).length = (onesOf l).length + if 0 < f then 1 else 0 := by
  rw [onesOf_snoc]
  by_cases h : 0 < f <;> simp [h]
theorem ask_big {l : List Int} {most : Int} (h : 288 < l.length) : lengthsOk l most = false := by
  have : decide (l.length ≤ 288) = false := by simp; omega
  simp [lengthsOk, this]
theorem ask_lo {l : List Int} {most : Int} (h : most < 1) : lengthsOk l most = false := by
  have : decide (1 ≤ most) = false := by simp; omega
  simp [lengthsOk, this]
theorem ask_hi {l : List Int} {most : Int} (h : 15 < most) : lengthsOk l most = false := by
  have : decide (most ≤ 15) = false := by simp; omega
  simp [lengthsOk, this]
theorem ask_bad {l : List Int} {most : Int} {k : Nat} (hk : k < l.length) (h : l.getD k 0 < 0 ∨ 1048576 < l.getD k 0) : lengthsOk l most = false := by
  have : l.all fairF = false := by
    rw [Bool.eq_false_iff]
    intro hh
    have := List.all_eq_true.1 hh (l.getD k 0) (by simp [hk])
    simp [fairF] at this
    simp only [List.getD_eq_getElem?_getD] at h
    omega
  simp [lengthsOk, this]
theorem ask_end {l : List Int} {most : Int} (h1 : l.length ≤ 288) (h2 : 1 ≤ most) (h3 : most ≤ 15) (h4 : l.all fairF = true) : lengthsOk l most = decide (((onesOf l).length : Int) ≤ 2 ^ most.toNat) := by
  have e : ((2 ^ most.toNat : Nat) : Int) = 2 ^ most.toNat := by simp
  have : decide ((onesOf l).length ≤ 2 ^ most.toNat) = decide (((onesOf l).length : Int) ≤ 2 ^ most.toNat) := by
    rw [← e]
    by_cases h : (onesOf l).length ≤ 2 ^ most.toNat
    · rw [decide_eq_true h, decide_eq_true (by exact_mod_cast h)]
    · rw [decide_eq_false h, decide_eq_false (by exact_mod_cast h)]
  simp [lengthsOk, h1, h2, h3, h4, this]

set_option maxHeartbeats 1600000 in
theorem asked_any (l : List Int) (A : Option Addr) (n cap : Nat) (most : Int) (w : World) (hr : RdI .i64 w A n l) (hn : n ≤ 4611686018427387904) (hms : -9223372036854775808 ≤ most ∧ most ≤ 9223372036854775807) :
    Calls Try.prog 14 #[.slice A n cap, .int .i64 most] w fun e w' => e = .returned (.bool (lengthsOk l most)) ∧ w = w' := by
  have HR := Lib.hid hr
  have HL := Lib.hid hr.1
  clear hr
  by_cases hbig : 288 < n
  · have hb : decide ((288 : Int) < n) = true := by simp; omega
    have HM := Lib.hid (ask_big (l := l) (most := most) (by have := HL.out; omega))
    go_enter Try.func14, Try.ntmps14
    go_wp2
    go_ret
    exact ⟨ret_bool HM.out, rfl⟩
  have hb : decide ((288 : Int) < n) = false := by simp; omega
  by_cases h2 : most < 1
  · have d2 : decide (most < 1) = true := by simpa using h2
    have HM := Lib.hid (ask_lo (l := l) h2)
    go_enter Try.func14, Try.ntmps14
    go_wp2
    go_ret
    exact ⟨ret_bool HM.out, rfl⟩
  have d2 : decide (most < 1) = false := by simp; omega
  by_cases h3 : 15 < most
  · have d3 : decide (15 < most) = true := by simpa using h3
    have HM := Lib.hid (ask_hi (l := l) h3)
    go_enter Try.func14, Try.ntmps14
    go_wp2
    go_ret
    exact ⟨ret_bool HM.out, rfl⟩
  have d3 : decide (15 < most) = false := by simp; omega
  go_enter Try.func14, Try.ntmps14
  go_wp2
  go_loop [5, 6] (A1 l n) (fun _ i => n - (intOf i).toNat)
  case atStart => exact ⟨0, by omega, rfl, rfl, rfl⟩
  case round =>
    obtain ⟨k, hk, rfl, rfl, hok⟩ := hrel
    have hmk : (onesOf (l.take k)).length ≤ k := Nat.le_trans (ones_facts _ hok).2.2.2 (List.length_take_le _ _)
    have HOk := Lib.hid hok
    clear hok
    by_cases hlt : k < n
    · obtain ⟨b, off, rfl, hblt, hz⟩ := HR.out.cell (Below.refl _ _) hlt
      have hkl : k < l.length := by have := HL.out; omega
      have HT := Lib.hid (take_snoc l k hkl)
      have HZ := Lib.hid (fun h => ask_bad (l := l) (most := most) hkl h)
      have hltI : (k : Int) < n := by omega
      have HN := Lib.hid (ones_snoc_len (l.take k) (l.getD k 0))
      generalize l.getD k 0 = z at *
      by_cases hneg : z < 0
      · have d1 : decide (z < 0) = true := by simpa using hneg
        have HM := Lib.hid (HZ.out (.inl hneg))
        go_wp2
        go_ret
        exact ⟨ret_bool HM.out, rfl⟩
      have d1 : decide (z < 0) = false := by simp; omega
      by_cases hbg : 1048576 < z
      · have d2 : decide (1048576 < z) = true := by simpa using hbg
        have HM := Lib.hid (HZ.out (.inr hbg))
        go_wp2
        go_ret
        exact ⟨ret_bool HM.out, rfl⟩
      have d2 : decide (1048576 < z) = false := by simp; omega
      clear HZ
      by_cases hpos : 0 < z
      · go_wp2
        go_round
        case rel =>
          refine ⟨k + 1, by omega, by go_num, ?_, ?_⟩
          · rw [HT.out, HN.out, if_pos hpos]; go_num
          · rw [HT.out, List.all_append, HOk.out]; simp [fairF]; omega
        case measure => simp [intOf]; omega
      · go_wp2
        go_round
        case rel =>
          refine ⟨k + 1, by omega, by go_num, ?_, ?_⟩
          · rw [HT.out, HN.out, if_neg hpos]; simp
          · rw [HT.out, List.all_append, HOk.out]; simp [fairF]; omega
        case measure => simp [intOf]; omega
    · obtain rfl : k = n := by omega
      have HK := Lib.hid (show l.take k = l from List.take_of_length_le (by have := HL.out; omega))
      rw [HK.out] at HOk hmk ⊢
      have HM := Lib.hid (ask_end (l := l) (most := most) (by have := HL.out; omega) (by omega) (by omega) HOk.out)
      have hpw := pow_bd most.toNat (by omega)
      go_wp2
      go_ret
      exact ⟨ret_bool HM.out, rfl⟩

/-! ### Cost -/
def costTo (l zs : List Int) (k : Nat) : Int := ((List.range k).map fun s : Nat => l.getD s 0 * zs.getD s 0).sum
theorem costTo_succ (l zs : List Int) (k : Nat) : costTo l zs (k + 1) = costTo l zs k + l.getD k 0 * zs.getD k 0 := by simp [costTo, List.range_succ]
def FairAt (l zs : List Int) (n : Nat) : Prop := ∀ s, s < n → 0 ≤ l.getD s 0 ∧ l.getD s 0 ≤ 1048576 ∧ 0 ≤ zs.getD s 0 ∧ zs.getD s 0 ≤ 15
theorem prod_bd {x y : Int} (h : 0 ≤ x ∧ x ≤ 1048576 ∧ 0 ≤ y ∧ y ≤ 15) : 0 ≤ x * y ∧ x * y ≤ 15728640 := by
  obtain ⟨h1, h2, h3, h4⟩ := h
  refine ⟨Int.mul_nonneg h1 h3, ?_⟩
  calc x * y ≤ 1048576 * y := Int.mul_le_mul_of_nonneg_right h2 h3
    _ ≤ 1048576 * 15 := Int.mul_le_mul_of_nonneg_left h4 (by omega)
    _ = 15728640 := by decide
theorem costTo_bd {l zs : List Int} {n : Nat} (h : FairAt l zs n) : ∀ k, k ≤ n → 0 ≤ costTo l zs k ∧ costTo l zs k ≤ 15728640 * k
  | 0, _ => by simp [costTo]
  | k + 1, hk => by
    have ih := costTo_bd h k (by omega)
    have := prod_bd (h k (by omega))
    rw [costTo_succ]
    omega
def CoR (l zs : List Int) (n : Nat) (w : World) (c i : Value) (wr : World) : Prop := ∃ k : Nat, k ≤ n ∧ i = .int .i64 k ∧ c = .int .i64 (costTo l zs k) ∧ Below w.heap.size w wr
set_option maxHeartbeats 800000 in
theorem cost_any (l zs : List Int) (A B : Option Addr) (n c d : Nat) (w : World) (ha : RdI .i64 w A n l) (hb : RdI .i64 w B n zs) (hn : n ≤ 288) (hf : FairAt l zs n) :
    Calls Try.prog 16 #[.slice A n c, .slice B n d] w fun e w' => e = .returned (.int .i64 (costOf l zs)) ∧ Below w.heap.size w w' := by
  have HA := Lib.hid ha
  have HB := Lib.hid hb
  have hla := Lib.hid ha.1
  have hlb := Lib.hid hb.1
  have HF := Lib.hid hf
  clear ha hb hf
  go_enter Try.func16, Try.ntmps16
  go_wp2
  go_loopw [5, 6] (CoR l zs n w) (fun _ i _ => n - (intOf i).toNat)
  case atStart => exact ⟨0, by omega, rfl, rfl, Below.refl _ _⟩
  case round =>
    obtain ⟨k, hk, rfl, rfl, hbel⟩ := hrel
    have HBel := Lib.hid hbel
    clear hbel
    have hcb := costTo_bd HF.out k hk
    by_cases hlt : k < n
    · have hltI : (k : Int) < n := by omega
      have d1 : decide ((k : Int) < n) = true := by simpa using hlt
      obtain ⟨b, off, rfl, _, hx⟩ := HA.out.cell HBel.out hlt
      obtain ⟨b', off', rfl, _, hy⟩ := HB.out.cell HBel.out hlt
      have hp := prod_bd (HF.out k hlt)
      have HS := Lib.hid (costTo_succ l zs k)
      generalize l.getD k 0 = x at *
      generalize zs.getD k 0 = y at *
      generalize costTo l zs k = s at *
      generalize hxy : x * y = p at *
      have hw1 : IntKind.i64.wrap (x * y) = p := by rw [hxy]; exact IntWalk.i64_in _ (by omega)
      go_wp2
      go_quiet (fail)
      go_wp2
      go_roundw
      case rel => exact ⟨k + 1, by omega, by go_num, by rw [HS.out], below_drewN HBel.out _⟩
      case measure => simp [intOf]; omega
    · obtain rfl : k = n := by omega
      have d1 : decide ((k : Int) < k) = false := by simp
      have HE := Lib.hid (show costOf l zs = costTo l zs k by unfold costOf costTo; rw [hla.out])
      go_wp2
      go_ret
      exact ⟨by rw [HE.out]; rfl, HBel.out⟩
end Go.Proofs.Ytacidmamfkfipaa
