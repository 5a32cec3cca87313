/-
  Rows of bits, the lowest first, as numbers; what is written is read.
  Three small facts on bits: a number's last three bits struck; two numbers of 16 bits that are each other's turning.
-/
import Derived.Test.YtlhaehefhhcgaaaDoorNext
import Derived.Laws.BitsLemmas
import Derived.Laws.Bits64b
import Derived.IntWalk
namespace Go.Proofs.YtlhaehefhhcgaaaDoor
set_option linter.unusedVariables false

def numOf : List Int → Nat
  | [] => 0
  | b :: bt => b.toNat + 2 * numOf bt
theorem numOf_append (a b : List Int) : numOf (a ++ b) = numOf a + numOf b * 2 ^ a.length := by
  induction a with
  | nil => simp [numOf]
  | cons x a ih =>
    simp only [List.cons_append, numOf, ih, List.length_cons, Nat.pow_succ]
    rw [Nat.mul_add, Nat.add_assoc, show 2 * (numOf b * 2 ^ a.length) = numOf b * (2 ^ a.length * 2) from by rw [← Nat.mul_assoc, Nat.mul_comm 2, Nat.mul_assoc, Nat.mul_comm 2]]
theorem numOf_lt {a : List Int} (h : Bit01 a) : numOf a < 2 ^ a.length := by
  induction a with
  | nil => simp [numOf]
  | cons x a ih =>
    have h1 := h x (by simp)
    have h2 := ih (fun y hy => h y (by simp [hy]))
    simp only [numOf, List.length_cons, Nat.pow_succ]
    omega
theorem numOf_zeros (n : Nat) : numOf (List.replicate n 0) = 0 := by
  induction n with
  | zero => rfl
  | succ n ih => simp [List.replicate_succ, numOf, ih]
theorem numOf_inj : ∀ {a b : List Int}, Bit01 a → Bit01 b → a.length = b.length → numOf a = numOf b → a = b
  | [], [], _, _, _, _ => rfl
  | [], _ :: _, _, _, h, _ => by simp at h
  | _ :: _, [], _, _, h, _ => by simp at h
  | x :: a, y :: b, ha, hb, hl, hn => by
    have h1 := ha x (by simp)
    have h2 := hb y (by simp)
    simp only [numOf] at hn
    have e1 : x = y := by omega
    have e2 := numOf_inj (a := a) (b := b) (fun z hz => ha z (by simp [hz])) (fun z hz => hb z (by simp [hz])) (by simpa using hl) (by omega)
    rw [e1, e2]
theorem Bit01.append {a b : List Int} (ha : Bit01 a) (hb : Bit01 b) : Bit01 (a ++ b) := fun x hx => by
  rcases List.mem_append.1 hx with h | h
  · exact ha x h
  · exact hb x h
theorem bit01_zeros (n : Nat) : Bit01 (List.replicate n 0) := fun x hx => .inl (List.eq_of_mem_replicate hx)
/-- So many bits of a number, the lowest first. -/
def bitsL (v : Nat) : Nat → List Int
  | 0 => []
  | n + 1 => ((v % 2 : Nat) : Int) :: bitsL (v / 2) n
theorem bitsL_len (n : Nat) : ∀ v, (bitsL v n).length = n := by
  induction n with
  | zero => intro v; rfl
  | succ n ih => intro v; simp [bitsL, ih]
theorem bitsL_01 (n : Nat) : ∀ v, Bit01 (bitsL v n) := by
  induction n with
  | zero => intro v x hx; simp [bitsL] at hx
  | succ n ih =>
    intro v x hx
    simp only [bitsL, List.mem_cons] at hx
    rcases hx with rfl | hx
    · omega
    · exact ih _ x hx
theorem bitsL_num (n : Nat) : ∀ v, numOf (bitsL v n) = v % 2 ^ n := by
  induction n with
  | zero => intro v; simp [bitsL, numOf, Nat.mod_one]
  | succ n ih =>
    intro v
    simp only [bitsL, numOf, ih]
    rw [Nat.pow_succ, Nat.mul_comm (2 ^ n), Nat.mod_mul]
    omega
theorem numOf_bitsL {a : List Int} (h : Bit01 a) : bitsL (numOf a) a.length = a :=
  numOf_inj (bitsL_01 _ _) h (bitsL_len _ _) (by rw [bitsL_num, Nat.mod_eq_of_lt (numOf_lt h)])
theorem numOf_div {a : List Int} (h : Bit01 a) : ∀ p, numOf (a.drop p) = numOf a / 2 ^ p := by
  induction a with
  | nil => intro p; simp [numOf]
  | cons x a ih =>
    intro p
    cases p with
    | zero => simp
    | succ p =>
      have h1 := h x (by simp)
      rw [List.drop_succ_cons, ih (fun y hy => h y (by simp [hy])), Nat.pow_succ, Nat.mul_comm, ← Nat.div_div_eq_div_mul]
      congr 1
      simp only [numOf]
      omega
theorem numOf_mod {a : List Int} (h : Bit01 a) : ∀ n, numOf (a.take n) = numOf a % 2 ^ n := by
  induction a with
  | nil => intro n; simp [numOf]
  | cons x a ih =>
    intro n
    cases n with
    | zero => simp [numOf, Nat.mod_one]
    | succ n =>
      have h1 := h x (by simp)
      rw [List.take_succ_cons]
      simp only [numOf]
      have e1 : (x.toNat + 2 * numOf a) % 2 = x.toNat := by omega
      have e2 : (x.toNat + 2 * numOf a) / 2 = numOf a := by omega
      rw [ih (fun y hy => h y (by simp [hy])), Nat.pow_succ, Nat.mul_comm (2 ^ n), Nat.mod_mul, e1, e2]
theorem bitsOf_eq {bs : List Int} (hB : Bytes bs) : bitsOf bs = bitsL (leNum bs) (8 * bs.length) := by
  have key : ∀ (n p : Nat), p + n ≤ 8 * bs.length → ((List.range' p n).map fun i => (bitsAt bs i 1 : Int)) = bitsL (leNum bs / 2 ^ p) n := by
    intro n
    induction n with
    | zero => intro p _; rfl
    | succ n ih =>
      intro p hp
      rw [List.range'_succ, List.map_cons, bitsL, ih (p + 1) (by omega), Nat.pow_succ, ← Nat.div_div_eq_div_mul]
      simp [bitsAt]
  have := key (8 * bs.length) 0 (by omega)
  rw [Nat.pow_zero, Nat.div_one] at this
  rw [← this, bitsOf, List.range_eq_range']
theorem bitsOf_num {bs : List Int} (hB : Bytes bs) : numOf (bitsOf bs) = leNum bs := by
  rw [bitsOf_eq hB, bitsL_num]
  apply Nat.mod_eq_of_lt
  have := leNum_lt hB
  rwa [pow256] at this
/-- Bytes of so many bits: behind these stand noughts. -/
theorem bitsOf_pad {bs bt : List Int} (hB : Bytes bs) (h01 : Bit01 bt) (hl : bt.length ≤ 8 * bs.length) (hn : leNum bs = numOf bt) : bitsOf bs = bt ++ List.replicate (8 * bs.length - bt.length) 0 := by
  apply numOf_inj (bitsOf_01 bs) (h01.append (bit01_zeros _))
  · rw [bitsOf_len]; simp; omega
  · rw [bitsOf_num hB, numOf_append, numOf_zeros, hn]; simp
theorem bitsAt_num {bs : List Int} (hB : Bytes bs) (p n : Nat) : bitsAt bs p n = numOf (((bitsOf bs).drop p).take n) := by
  rw [numOf_mod ((bitsOf_01 bs).drop p), numOf_div (bitsOf_01 bs), bitsOf_num hB]
  rfl
/-- A code, its highest bit first. -/
def codeBits (c : Nat) : Nat → List Int
  | 0 => []
  | n + 1 => ((c / 2 ^ n % 2 : Nat) : Int) :: codeBits c n
theorem codeBits_len (c : Nat) : ∀ n, (codeBits c n).length = n
  | 0 => rfl
  | n + 1 => by simp [codeBits, codeBits_len c n]
theorem codeBits_01 (c : Nat) : ∀ n, Bit01 (codeBits c n)
  | 0 => fun x hx => by simp [codeBits] at hx
  | n + 1 => fun x hx => by
    simp only [codeBits, List.mem_cons] at hx
    rcases hx with rfl | hx
    · omega
    · exact codeBits_01 c n x hx
theorem codeBits_at (c : Nat) : ∀ n i, i < n → (codeBits c n).getD i 0 = ((c / 2 ^ (n - 1 - i) % 2 : Nat) : Int)
  | 0, i, h => by omega
  | n + 1, 0, _ => by simp [codeBits]
  | n + 1, i + 1, h => by
    simp only [codeBits, List.getD_cons_succ]
    rw [codeBits_at c n i (by omega), show n + 1 - 1 - (i + 1) = n - 1 - i from by omega]
theorem codeB_bits (c n : Nat) (more : List Int) (hc : c < 2 ^ n) : ∀ l, l ≤ n → codeB (codeBits c n ++ more) l = ((c / 2 ^ (n - l) : Nat) : Int)
  | 0, _ => by simp [codeB, Nat.div_eq_of_lt hc]
  | l + 1, hl => by
    have ih := codeB_bits c n more hc l (by omega)
    simp only [codeB]
    have e : (codeBits c n ++ more).getD l 0 = (codeBits c n).getD l 0 := by
      simp only [List.getD_eq_getElem?_getD]
      rw [List.getElem?_append_left (by rw [codeBits_len]; omega)]
    rw [ih, e, codeBits_at c n l (by omega), show n - l = (n - (l + 1)) + 1 from by omega, show n - 1 - l = n - (l + 1) from by omega, Nat.pow_succ, ← Nat.div_div_eq_div_mul]
    omega
theorem first_grow (zs : List Int) (l : Nat) : ∀ m, (2 : Int) ^ (m + 1) * (firstAt zs l + cntI zs l) ≤ firstAt zs (l + m + 1)
  | 0 => by simp [firstAt]
  | m + 1 => by
    have ih := first_grow zs l m
    have hc := cntI_lo zs (l + m + 1)
    show _ ≤ 2 * (firstAt zs (l + m + 1) + cntI zs (l + m + 1))
    rw [Int.pow_succ, Int.mul_comm (2 ^ (m + 1)) 2, Int.mul_assoc]
    omega
theorem left_ge {zs : List Int} : ∀ {k : Nat}, leftsOk zs k = true → ∀ n, n ≤ k → 0 ≤ leftAt zs n
  | 0, _, n, hn => by
    obtain rfl : n = 0 := by omega
    simp [leftAt]
  | k + 1, h, n, hn => by
    simp only [leftsOk, Bool.and_eq_true, decide_eq_true_eq] at h
    by_cases e : n = k + 1
    · rw [e]; exact h.2
    · exact left_ge h.1 n (by omega)
theorem lefts_ok {zs : List Int} (hok : countsOk zs = true) : leftsOk zs 15 = true := by
  simp only [countsOk, Bool.and_eq_true] at hok
  exact hok.1.2
/-- A symbol's code, as a number. -/
theorem code_lt {zs : List Int} (hok : countsOk zs = true) {s n : Nat} (hs : s < zs.length) (hn : 0 < n) (h15 : n ≤ 15) (hz : zs.getD s 0 = (n : Int)) : 0 ≤ codeAt zs s ∧ codeAt zs s < 2 ^ n := by
  have h1 := code_of (zs := zs) (i := s) hn hz
  have h2 := cnt_take_le zs n s hs hz
  have h3 := left_ge (lefts_ok hok) n h15
  rw [left_first, cntI_nz (by omega)] at h3
  have h4 : ∀ l, 0 ≤ firstAt zs l := by
    intro l
    induction l with
    | zero => simp [firstAt]
    | succ l ih =>
      have := cntI_lo zs l
      simp only [firstAt]
      omega
  have := h4 n
  omega
/-- What is written is read: behind a symbol's code stands whatever. -/
theorem next_code {zs : List Int} (hok : countsOk zs = true) {s n : Nat} (hs : s < zs.length) (hn : 0 < n) (h15 : n ≤ 15) (hz : zs.getD s 0 = (n : Int)) (more : List Int) :
    nextOf zs (codeBits (codeAt zs s).toNat n ++ more) = (some (s : Int), n) := by
  obtain ⟨h0, h1⟩ := code_lt hok hs hn h15 hz
  have hc := code_of (zs := zs) (i := s) hn hz
  have hlt := cnt_take_le zs n s hs hz
  have hcn : (codeAt zs s).toNat < 2 ^ n := by
    have e : ((2 ^ n : Nat) : Int) = 2 ^ n := by simp
    omega
  have hmax : (n : Int) ≤ maxL zs := by have := maxL_ge hs; omega
  have key : ∀ f l, f + l = n → 0 < f → ∀ g, f ≤ g → nextGo zs (codeBits (codeAt zs s).toNat n ++ more) g l = (some (s : Int), n) := by
    intro f
    induction f with
    | zero => intro l _ h; omega
    | succ f ih =>
      intro l hl _ g hg
      obtain ⟨g', rfl⟩ : ∃ g', g = g' + 1 := ⟨g - 1, by omega⟩
      simp only [nextGo]
      rw [if_pos (by rw [List.length_append, codeBits_len]; omega)]
      have hcb := codeB_bits (codeAt zs s).toNat n more hcn (l + 1) (by omega)
      rcases Nat.eq_zero_or_pos f with rfl | hf
      · have e : l + 1 = n := by omega
        rw [e] at hcb ⊢
        rw [Nat.sub_self, Nat.pow_zero, Nat.div_one] at hcb
        have hh : hit zs (codeBits (codeAt zs s).toNat n ++ more) n = true := by
          unfold hit
          rw [hcb, cntI_nz (by omega)]
          simp only [Bool.and_eq_true, decide_eq_true_eq]
          omega
        rw [if_pos hh]
        unfold symAt
        rw [hcb, show (((codeAt zs s).toNat : Int) - firstAt zs n).toNat = cnt (zs.take s) n from by omega]
        have := sym_at zs n s hs hz
        simp only [List.getD_eq_getElem?_getD, this, Option.getD_some]
      · have hg' := first_grow zs (l + 1) (n - (l + 1) - 1)
        rw [show n - (l + 1) - 1 + 1 = n - (l + 1) from by omega, show l + 1 + (n - (l + 1) - 1) + 1 = n from by omega] at hg'
        have hno : hit zs (codeBits (codeAt zs s).toNat n ++ more) (l + 1) = false := by
          unfold hit
          rw [hcb]
          have e : (((codeAt zs s).toNat / 2 ^ (n - (l + 1)) : Nat) : Int) = codeAt zs s / 2 ^ (n - (l + 1)) := by
            rw [Int.natCast_ediv, Int.toNat_of_nonneg h0]; simp
          rw [e]
          have h5 : firstAt zs (l + 1) + cntI zs (l + 1) ≤ codeAt zs s / 2 ^ (n - (l + 1)) := by
            refine (Int.le_ediv_iff_mul_le (Int.pow_pos (by omega))).2 ?_
            rw [Int.mul_comm]
            omega
          rw [Bool.and_eq_false_iff]
          right
          simp only [decide_eq_false_iff_not]
          omega
        rw [if_neg (by rw [hno]; simp)]
        exact ih (l + 1) (by omega) hf g' (by omega)
  exact key n 0 (by omega) hn _ (by omega)
end Go.Proofs.YtlhaehefhhcgaaaDoor
namespace Go.Proofs.YtlhaehefhhcgaaaDoor
open Go

theorem and_high (x : Nat) (h : x < 2 ^ 64) : x &&& 18446744073709551608 = x / 8 * 8 := by
  have e1 : 18446744073709551608 = (2 ^ 61 - 1) <<< 3 := by decide
  have e2 : x / 8 * 8 = (x >>> 3) <<< 3 := by rw [Nat.shiftRight_eq_div_pow, Nat.shiftLeft_eq]
  rw [e1, e2]
  apply Nat.eq_of_testBit_eq
  intro i
  simp only [Nat.testBit_and, Nat.testBit_shiftLeft, Nat.testBit_shiftRight, Nat.testBit_two_pow_sub_one]
  by_cases h3 : 3 ≤ i
  · rw [show 3 + (i - 3) = i from by omega]
    by_cases h6 : i - 3 < 61
    · simp [h3, h6]
    · have : x.testBit i = false := Nat.testBit_lt_two_pow (Nat.lt_of_lt_of_le h (Nat.pow_le_pow_right (by omega) (by omega)))
      simp [this]
  · simp [h3]
theorem andNot7 (x : Nat) (h : x < 9223372036854775808) : bits .andNot .i64 (x : Int) 7 = ((x / 8 * 8 : Nat) : Int) := by
  have h1 : (BitVec.ofInt 64 (x : Int)).toNat = x := by
    rw [BitVec.ofInt_natCast, BitVec.toNat_ofNat]; exact Nat.mod_eq_of_lt (by omega)
  have h2 : (~~~ (BitVec.ofInt 64 7)).toNat = 18446744073709551608 := by decide
  show IntKind.i64.wrap (((BitVec.ofInt 64 (x : Int)) &&& ~~~ (BitVec.ofInt 64 7)).toNat : Int) = _
  rw [BitVec.toNat_and, h1, h2, and_high x (by omega)]
  exact IntWalk.i64_in _ (by omega)
theorem xor_nat (a b : Nat) (ha : a < 65536) (hb : b < 65536) : bits .xor .i64 (a : Int) (b : Int) = ((a ^^^ b : Nat) : Int) := by
  have h1 : (BitVec.ofInt 64 (a : Int)).toNat = a := by
    rw [BitVec.ofInt_natCast, BitVec.toNat_ofNat]; exact Nat.mod_eq_of_lt (by omega)
  have h2 : (BitVec.ofInt 64 (b : Int)).toNat = b := by
    rw [BitVec.ofInt_natCast, BitVec.toNat_ofNat]; exact Nat.mod_eq_of_lt (by omega)
  show IntKind.i64.wrap (((BitVec.ofInt 64 (a : Int)) ^^^ (BitVec.ofInt 64 (b : Int))).toNat : Int) = _
  rw [BitVec.toNat_xor, h1, h2]
  have : a ^^^ b < 2 ^ 16 := Nat.xor_lt_two_pow (by omega) (by omega)
  exact IntWalk.i64_in _ (by omega)
theorem xor_turn (a : Nat) (ha : a < 65536) : a ^^^ 65535 = 65535 - a := by
  have e1 : 65535 - a = 2 ^ 16 - (a + 1) := by omega
  rw [e1]
  apply Nat.eq_of_testBit_eq
  intro i
  have h2 := Nat.testBit_two_pow_sub_succ (x := a) (n := 16) (by omega) i
  rw [h2, Nat.testBit_xor, show (65535 : Nat) = 2 ^ 16 - 1 from by decide, Nat.testBit_two_pow_sub_one]
  by_cases h : i < 16
  · simp [h]
  · have : a.testBit i = false := Nat.testBit_lt_two_pow (Nat.lt_of_lt_of_le (show a < 2 ^ 16 by omega) (Nat.pow_le_pow_right (by omega) (by omega)))
    simp [h, this]
theorem xor_full (a b : Nat) (ha : a < 65536) (hb : b < 65536) : (a ^^^ b = 65535) ↔ a + b = 65535 := by
  constructor
  · intro h
    have h1 : a ^^^ 65535 = b := by rw [← h, ← Nat.xor_assoc, Nat.xor_self, Nat.zero_xor]
    rw [xor_turn a ha] at h1
    omega
  · intro h
    obtain rfl : b = 65535 - a := by omega
    rw [← xor_turn a ha, ← Nat.xor_assoc, Nat.xor_self, Nat.zero_xor]
end Go.Proofs.YtlhaehefhhcgaaaDoor
