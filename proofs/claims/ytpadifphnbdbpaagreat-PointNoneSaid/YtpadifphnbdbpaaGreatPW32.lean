/-
  what this claim needs of: W32, ShaPlain, CrcPlain (written by cut.py).
-/
import Derived.WalkKit
namespace Go.Proofs.YtpadifphnbdbpaaGreat
open Go.RowKit
set_option linter.unusedVariables false

/-- A word's number. -/
def wv (x : BitVec 32) : Int := (x.toNat : Int)
theorem wv_bd (x : BitVec 32) : 0 ≤ wv x ∧ wv x < 4294967296 := by
  have := x.isLt
  unfold wv
  omega
theorem of_wv (x : BitVec 32) : BitVec.ofInt 32 (wv x) = x := by
  unfold wv
  rw [BitVec.ofInt_natCast]
  simp
theorem wrap_wv (x : BitVec 32) : IntKind.u32.wrap (wv x) = wv x := by
  have := wv_bd x
  rw [IntKind.wrap_u32]
  omega
theorem bits_xor (x y : BitVec 32) : bits .xor .u32 (wv x) (wv y) = wv (x ^^^ y) := by
  show IntKind.u32.wrap (wv (BitVec.ofInt 32 (wv x) ^^^ BitVec.ofInt 32 (wv y))) = _
  rw [of_wv, of_wv, wrap_wv]
theorem bits_and (x y : BitVec 32) : bits .and .u32 (wv x) (wv y) = wv (x &&& y) := by
  show IntKind.u32.wrap (wv (BitVec.ofInt 32 (wv x) &&& BitVec.ofInt 32 (wv y))) = _
  rw [of_wv, of_wv, wrap_wv]
theorem shr_wv (x : BitVec 32) (s : Nat) : wv x / 2 ^ s = wv (x >>> s) := by
  unfold wv
  rw [BitVec.toNat_ushiftRight, Nat.shiftRight_eq_div_pow]
  rw [show ((2 : Int) ^ s) = ((2 ^ s : Nat) : Int) by simp]
  omega
/-- A byte put into a word. -/
def b32 (z : Nat) : BitVec 32 := BitVec.ofNat 32 z
theorem b32_wv {z : Nat} (h : z < 256) : (z : Int) = wv (b32 z) := by
  unfold wv b32
  rw [BitVec.toNat_ofNat]
  omega
def ch (e f g : BitVec 32) : BitVec 32 := (e &&& f) ^^^ (~~~e &&& g)
end Go.Proofs.YtpadifphnbdbpaaGreat
namespace Go.Proofs.YtpadifphnbdbpaaGreat
open Go.RowKit
set_option linter.unusedVariables false

structure S8 where
  a : BitVec 32
  b : BitVec 32
  c : BitVec 32
  d : BitVec 32
  e : BitVec 32
  f : BitVec 32
  g : BitVec 32
  h : BitVec 32
end Go.Proofs.YtpadifphnbdbpaaGreat
namespace Go.Proofs.YtpadifphnbdbpaaGreat
open Go.RowKit
set_option linter.unusedVariables false

def polyW : BitVec 32 := BitVec.ofNat 32 2197175160
def stepC (p x : BitVec 32) : BitVec 32 := if x.getLsbD 0 then (x >>> 1) ^^^ p else x >>> 1
def stepN (p : BitVec 32) : Nat → BitVec 32 → BitVec 32
  | 0, x => x
  | k + 1, x => stepC p (stepN p k x)
theorem stepC_xor (p x y : BitVec 32) : stepC p (x ^^^ y) = stepC p x ^^^ stepC p y := by
  unfold stepC
  rw [BitVec.getLsbD_xor, BitVec.ushiftRight_xor_distrib]
  cases x.getLsbD 0 <;> cases y.getLsbD 0
  · simp
  · simp [BitVec.xor_assoc]
  · simp only [Bool.xor_false, if_true, Bool.false_eq_true, if_false]
    rw [BitVec.xor_assoc, BitVec.xor_comm (y >>> 1) p, BitVec.xor_assoc]
  · simp only [Bool.xor_self, Bool.false_eq_true, if_false, if_true]
    rw [BitVec.xor_assoc (x >>> 1) p, ← BitVec.xor_assoc p (y >>> 1) p, BitVec.xor_comm p (y >>> 1), BitVec.xor_assoc (y >>> 1) p p, BitVec.xor_self, BitVec.xor_zero]
theorem stepN_xor (p x y : BitVec 32) : ∀ k, stepN p k (x ^^^ y) = stepN p k x ^^^ stepN p k y
  | 0 => rfl
  | k + 1 => by rw [stepN, stepN, stepN, stepN_xor p x y k, stepC_xor]
theorem stepN_high (p x : BitVec 32) : ∀ k, (∀ i, i < k → x.getLsbD i = false) → stepN p k x = x >>> k
  | 0, _ => by simp [stepN]
  | k + 1, h => by
    rw [stepN, stepN_high p x k (fun i hi => h i (by omega))]
    unfold stepC
    rw [BitVec.getLsbD_ushiftRight, Nat.add_zero, h k (by omega)]
    simp [BitVec.shiftRight_add]
theorem stepC_neg (p x : BitVec 32) : (x >>> 1) ^^^ (p &&& -(x &&& 1#32)) = stepC p x := by
  unfold stepC
  have h : x &&& 1#32 = if x.getLsbD 0 then 1#32 else 0#32 := by
    apply BitVec.eq_of_getLsbD_eq
    intro i hi
    rw [BitVec.getLsbD_and]
    by_cases h0 : i = 0
    · subst h0
      cases x.getLsbD 0 <;> simp
    · have : (1#32).getLsbD i = false := by
        rw [BitVec.getLsbD_one]
        simp [h0]
      rw [this, Bool.and_false]
      split
      · exact this.symm
      · simp
  rw [h]
  cases x.getLsbD 0
  · simp
  · simp only [if_true]
    congr 1
    rw [show -(1#32) = BitVec.allOnes 32 by decide, BitVec.and_allOnes]
theorem neg_wv (x : BitVec 32) : IntKind.u32.wrap (-(wv x)) = wv (-x) := by
  rw [IntKind.wrap_u32]
  unfold wv
  rw [BitVec.toNat_neg]
  have := x.isLt
  omega
/-- A row of the table. -/
def rowC (i : Nat) : BitVec 32 := stepN polyW 8 (b32 i)
/-- One byte more. -/
def byteC (x : BitVec 32) (z : Nat) : BitVec 32 := stepN polyW 8 (x ^^^ b32 z)
theorem byteC_row (x : BitVec 32) (z : Nat) (hz : z < 256) : byteC x z = (x >>> 8) ^^^ rowC ((x.toNat % 256) ^^^ z) := by
  unfold byteC rowC
  have hx : x = (x &&& 255#32) ^^^ (x &&& ~~~(255#32)) := by
    apply BitVec.eq_of_getLsbD_eq
    intro i hi
    simp only [BitVec.getLsbD_xor, BitVec.getLsbD_and, BitVec.getLsbD_not, hi, decide_true, Bool.true_and]
    cases x.getLsbD i <;> cases (255#32).getLsbD i <;> rfl
  have hhi : stepN polyW 8 (x &&& ~~~(255#32)) = x >>> 8 := by
    rw [stepN_high]
    · apply BitVec.eq_of_getLsbD_eq
      intro i hi
      rw [BitVec.getLsbD_ushiftRight, BitVec.getLsbD_ushiftRight, BitVec.getLsbD_and, BitVec.getLsbD_not]
      by_cases h : 8 + i < 32
      · have : (255#32).getLsbD (8 + i) = false := by
          have : ∀ j : Fin 24, (255#32).getLsbD (8 + j.val) = false := by decide
          exact this ⟨i, by omega⟩
        rw [this]
        simp [h]
      · have : x.getLsbD (8 + i) = false := BitVec.getLsbD_of_ge _ _ (by omega)
        rw [this, Bool.false_and]
    · intro i hi
      rw [BitVec.getLsbD_and, BitVec.getLsbD_not]
      have : (255#32).getLsbD i = true := by
        have : ∀ j : Fin 8, (255#32).getLsbD j.val = true := by decide
        exact this ⟨i, hi⟩
      rw [this]
      simp
  have hlo : b32 ((x.toNat % 256) ^^^ z) = (x &&& 255#32) ^^^ b32 z := by
    unfold b32
    apply BitVec.eq_of_toNat_eq
    have e : x.toNat &&& 255 = x.toNat % 256 := by
      show x.toNat &&& 255 = x.toNat % 2 ^ 8
      rw [← Nat.and_two_pow_sub_one_eq_mod]
    have e2 : (x &&& 255#32).toNat = x.toNat % 256 := by rw [BitVec.toNat_and]; exact e
    rw [BitVec.toNat_xor, e2, BitVec.toNat_ofNat, BitVec.toNat_ofNat]
    have h1 : (x.toNat % 256) ^^^ z < 256 := Nat.xor_lt_two_pow (n := 8) (by omega) hz
    rw [Nat.mod_eq_of_lt (show (x.toNat % 256) ^^^ z < 2 ^ 32 by omega), Nat.mod_eq_of_lt (show z < 2 ^ 32 by omega)]
  rw [hlo, ← hhi, ← stepN_xor]
  congr 1
  rw [← BitVec.xor_assoc, BitVec.xor_comm (x &&& ~~~(255#32)), ← hx]
/-- The sum of bytes. -/
def crcFrom (x : BitVec 32) (b : List Int) : BitVec 32 := b.foldl (fun x z => byteC x z.toNat) x
def crcB (b : List Int) : BitVec 32 := ~~~(crcFrom (~~~(0#32)) b)
theorem crcFrom_snoc (x : BitVec 32) (b : List Int) (z : Int) : crcFrom x (b ++ [z]) = byteC (crcFrom x b) z.toNat := by simp [crcFrom]
end Go.Proofs.YtpadifphnbdbpaaGreat
