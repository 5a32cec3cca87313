/-
  what this claim needs of: Sha2, Sha3 (written by cut.py).
-/
import Derived.Test.YtpadifphnbdbpaaGreatPMem
import Derived.Test.YtpadifphnbdbpaaGreatPHuffSpec
import Derived.Test.YtpadifphnbdbpaaGreatPW32
namespace Go.Proofs.YtpadifphnbdbpaaGreat
open Go.RowKit
set_option linter.unusedVariables false
set_option linter.unusedSimpArgs false

def u32v (x : BitVec 32) : Value := .int .u32 (wv x)
theorem range_below {w w' : World} {g o : Nat} {l : List Value} (h : w.rangeAt g o l) (hb : Below w.heap.size w w') : w'.rangeAt g o l := fun j v hv => (World.cell?_of_block (a := ⟨g, o + j, none⟩) (hb.block g (block_lt_of_cell (h j v hv)))).trans (h j v hv)
theorem gb_trans {a b c : World} {r : Option Nat} (h : a.grownBy b r) (k : b.grownBy c r) : a.grownBy c r :=
  ⟨k.os.trans h.os, k.tape.trans h.tape, k.output.trans h.output, Nat.le_trans h.size k.size, fun j hj hr => (k.block j (Nat.lt_of_lt_of_le hj h.size) hr).trans (h.block j hj hr)⟩
theorem gb_put (w : World) (p : Addr) (u : Value) : w.grownBy (w.setCell p u).drew (some p.block) := ⟨rfl, rfl, rfl, by simp [World.drew], fun k _ hk => Below.heap_setCell w p u k (fun e => hk (by rw [e]))⟩
end Go.Proofs.YtpadifphnbdbpaaGreat
namespace Go.Proofs.YtpadifphnbdbpaaGreat
open Go.RowKit
set_option linter.unusedVariables false
set_option linter.unusedSimpArgs false

theorem RdI.drop8 {w : World} {bb off n k : Nat} {b : List Int} (h : RdI .u8 w (some ⟨bb, off, none⟩) n b) (hk : k ≤ n) : RdI .u8 w (some ⟨bb, off + k, none⟩) (n - k) (b.drop k) := by
  refine ⟨by rw [List.length_drop, h.1], fun h0 => ?_⟩
  obtain ⟨b2, o2, e, hlt, hc⟩ := h.2 (by omega)
  simp only [Option.some.injEq, Addr.mk.injEq] at e
  obtain ⟨rfl, rfl, _⟩ := e
  refine ⟨bb, off + k, rfl, hlt, fun j hj => ?_⟩
  have := hc (k + j) (by omega)
  rw [Nat.add_assoc, this]
  congr 2
  simp [List.getD_eq_getElem?_getD, List.getElem?_drop]
theorem rd_gb {w wr : World} {g n : Nat} {A : Option Addr} {b : List Int} (h : RdI .u8 w A n b) (hg : w.grownBy wr (some g)) (hA : ∀ a, A = some a → a.block ≠ g) : RdI .u8 wr A n b := by
  refine ⟨h.1, fun h0 => ?_⟩
  obtain ⟨b2, o2, e, hlt, hc⟩ := h.2 h0
  refine ⟨b2, o2, e, Nat.lt_of_lt_of_le hlt hg.size, fun j hj => ?_⟩
  exact (World.cell?_of_block (a := ⟨b2, o2 + j, none⟩) (hg.block b2 hlt (fun hh => hA _ e (by injection hh)))).trans (hc j hj)
end Go.Proofs.YtpadifphnbdbpaaGreat
