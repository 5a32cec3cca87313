/-
  Three small facts on bits: a number's last three bits struck; two numbers of 16 bits that are each other's turning.
-/
import Derived.Laws.BitsLemmas
import Derived.Laws.Bits64b
import Derived.IntWalk
namespace Go.Proofs.YtacidmamfkfipaaDoor
open Go

theorem and_high (x : Nat) (h : x < 2 ^ 64) : x &&& 18446744073709551608 = x / 8 * 8 := by
  have e1 : 18446744073709551608 = (2 ^ 61 - 1) <<< 3 := by decide
  have e2 : x / 8 * 8 = (x >>> 3) <<< 3 := by rw [Nat.shiftRight_eq_div_pow, Nat.shiftLeft_eq]
  rw [e1, e2]
  apply Nat.eq_of_testBit_eq
  intro i
  simp only [Nat.testBit_and, Nat.testBit_shiftLeft, Nat.testBit_shiftRight, Nat.testBit_two_pow_sub_one]
  by_cases h3 : 3 ≤ i
  · rw [show 3 + (i - 3) = i from by omega]
    by_cases h6 : i - 3 < 61
    · simp [h3, h6]
    · have : x.testBit i = false := Nat.testBit_lt_two_pow (Nat.lt_of_lt_of_le h (Nat.pow_le_pow_right (by omega) (by omega)))
      simp [this]
  · simp [h3]
theorem andNot7 (x : Nat) (h : x < 9223372036854775808) : bits .andNot .i64 (x : Int) 7 = ((x / 8 * 8 : Nat) : Int) := by
  have h1 : (BitVec.ofInt 64 (x : Int)).toNat = x := by
    rw [BitVec.ofInt_natCast, BitVec.toNat_ofNat]; exact Nat.mod_eq_of_lt (by omega)
  have h2 : (~~~ (BitVec.ofInt 64 7)).toNat = 18446744073709551608 := by decide
  show IntKind.i64.wrap (((BitVec.ofInt 64 (x : Int)) &&& ~~~ (BitVec.ofInt 64 7)).toNat : Int) = _
  rw [BitVec.toNat_and, h1, h2, and_high x (by omega)]
  exact IntWalk.i64_in _ (by omega)
theorem xor_nat (a b : Nat) (ha : a < 65536) (hb : b < 65536) : bits .xor .i64 (a : Int) (b : Int) = ((a ^^^ b : Nat) : Int) := by
  have h1 : (BitVec.ofInt 64 (a : Int)).toNat = a := by
    rw [BitVec.ofInt_natCast, BitVec.toNat_ofNat]; exact Nat.mod_eq_of_lt (by omega)
  have h2 : (BitVec.ofInt 64 (b : Int)).toNat = b := by
    rw [BitVec.ofInt_natCast, BitVec.toNat_ofNat]; exact Nat.mod_eq_of_lt (by omega)
  show IntKind.i64.wrap (((BitVec.ofInt 64 (a : Int)) ^^^ (BitVec.ofInt 64 (b : Int))).toNat : Int) = _
  rw [BitVec.toNat_xor, h1, h2]
  have : a ^^^ b < 2 ^ 16 := Nat.xor_lt_two_pow (by omega) (by omega)
  exact IntWalk.i64_in _ (by omega)
theorem xor_turn (a : Nat) (ha : a < 65536) : a ^^^ 65535 = 65535 - a := by
  have e1 : 65535 - a = 2 ^ 16 - (a + 1) := by omega
  rw [e1]
  apply Nat.eq_of_testBit_eq
  intro i
  have h2 := Nat.testBit_two_pow_sub_succ (x := a) (n := 16) (by omega) i
  rw [h2, Nat.testBit_xor, show (65535 : Nat) = 2 ^ 16 - 1 from by decide, Nat.testBit_two_pow_sub_one]
  by_cases h : i < 16
  · simp [h]
  · have : a.testBit i = false := Nat.testBit_lt_two_pow (Nat.lt_of_lt_of_le (show a < 2 ^ 16 by omega) (Nat.pow_le_pow_right (by omega) (by omega)))
    simp [h, this]
theorem xor_full (a b : Nat) (ha : a < 65536) (hb : b < 65536) : (a ^^^ b = 65535) ↔ a + b = 65535 := by
  constructor
  · intro h
    have h1 : a ^^^ 65535 = b := by rw [← h, ← Nat.xor_assoc, Nat.xor_self, Nat.zero_xor]
    rw [xor_turn a ha] at h1
    omega
  · intro h
    obtain rfl : b = 65535 - a := by omega
    rw [← xor_turn a ha, ← Nat.xor_assoc, Nat.xor_self, Nat.zero_xor]
end Go.Proofs.YtacidmamfkfipaaDoor
