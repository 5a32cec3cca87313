/-
  Decoder.Next, walked.
-/
import Derived.Test.YthmcdohndckniaaGreatDoorNextPlain
import Derived.Test.YthmcdohndckniaaGreatDoorBitio
namespace Go.Proofs.YthmcdohndckniaaGreatDoor
open Go.RowKit
set_option linter.unusedVariables false

/-- The bits of bytes, the lowest ones of a byte first. -/
def bitsOf (bs : List Int) : List Int := (List.range (8 * bs.length)).map fun i => (bitsAt bs i 1 : Int)
theorem bitsOf_len (bs : List Int) : (bitsOf bs).length = 8 * bs.length := by simp [bitsOf]
theorem bitsOf_at {bs : List Int} {i : Nat} (h : i < 8 * bs.length) : (bitsOf bs).getD i 0 = bitsAt bs i 1 := by simp [bitsOf, h]
theorem bitsAt_le (bs : List Int) (i : Nat) : bitsAt bs i 1 ≤ 1 := by unfold bitsAt; have := Nat.mod_lt (leNum bs / 2 ^ i) (show 0 < 2 ^ 1 by omega); omega
theorem bitsOf_01 (bs : List Int) : Bit01 (bitsOf bs) := by
  intro b hb
  simp only [bitsOf, List.mem_map] at hb
  obtain ⟨i, _, rfl⟩ := hb
  have := bitsAt_le bs i
  omega
theorem Bit01.drop {bt : List Int} (h : Bit01 bt) (p : Nat) : Bit01 (bt.drop p) := fun b hb => h b (List.mem_of_mem_drop hb)

end Go.Proofs.YthmcdohndckniaaGreatDoor
