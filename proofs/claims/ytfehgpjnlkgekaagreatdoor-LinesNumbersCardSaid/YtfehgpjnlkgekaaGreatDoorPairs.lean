/-
  huff.pairs: each two of a row as one.
-/
import Derived.Test.YtfehgpjnlkgekaaGreatDoorMerge
import Derived.Test.YtfehgpjnlkgekaaGreatDoorLenPlain
namespace Go.Proofs.YtfehgpjnlkgekaaGreatDoor
open Go.RowKit
set_option linter.unusedVariables false

/-- A pack: its weight, its slice, its symbols. -/
abbrev TP := Int × (Value × List Int)
def pvs (z : List TP) : List PV := z.map fun t => (t.1, t.2.1)
def aps (z : List TP) : List (Int × List Int) := z.map fun t => (t.1, t.2.2)
def Sym (w : World) (v : Value) (l : List Int) : Prop := w.ownsRow 0 3 1 v l.length (l.map (Value.int .i64))
theorem Sym.below {w w' : World} {v : Value} {l : List Int} (h : Sym w v l) (hb : Below w.heap.size w w') : Sym w' v l :=
  World.ownsRow.kept (row := none) h ⟨hb.os, hb.tape, hb.output, hb.size, fun k hk _ => hb.block k hk⟩ (by cases hh : v.ownBlock <;> simp)
theorem Sym.one {w : World} {v : Value} {l : List Int} (h : Sym w v l) : v.oneCell' = true := by
  obtain ⟨A, c, rfl, _⟩ := own_slice h
  rfl

theorem own_below {w w' : World} {base : Nat} {e : TypeId} {size n : Nat} {v : Value} {xs : List Value} (h : w.ownsRow base e size v n xs) (hb : Below w.heap.size w w') : w'.ownsRow base e size v n xs :=
  h.kept (row := none) ⟨hb.os, hb.tape, hb.output, hb.size, fun k hk _ => hb.block k hk⟩ (by cases hh : v.ownBlock <;> simp)
/-- Rows of different elements never lie in one block. -/
theorem own_apart {w : World} {b1 b2 : Nat} {e1 e2 : TypeId} {s1 s2 n1 n2 : Nat} {v1 v2 : Value} {x1 x2 : List Value} (h1 : w.ownsRow b1 e1 s1 v1 n1 x1) (h2 : w.ownsRow b2 e2 s2 v2 n2 x2) (hne : e1 ≠ e2) :
    v1.ownBlock = none ∨ v1.ownBlock ≠ v2.ownBlock := by
  rcases h1.2 with ⟨rfl, _⟩ | ⟨g, cap, cur, rfl, _, hg, _⟩
  · exact .inl rfl
  · refine .inr (fun he => ?_)
    rcases h2.2 with ⟨rfl, _⟩ | ⟨g', cap', cur', rfl, _, hg', _⟩
    · simp [Value.ownBlock] at he
    · simp only [Value.ownBlock, Option.some.injEq] at he
      subst he
      rw [hg] at hg'
      injection hg' with hg'
      injection hg' with _ ht
      exact hne ht
theorem Src.of_blk {w : World} {B : Nat} {t : TypeId} {cs : Array Value} {size m c : Nat} (h : Blk w B t cs) (hs : cs.size = m * size) : Src w size (.slice (some ⟨B, 0, none⟩) m c) m cs.toList :=
  ⟨_, c, rfl, by simpa using hs, fun _ => ⟨B, 0, rfl, h.lt, fun j y hy => by rw [Nat.zero_add, h.cellq]; simpa using hy⟩⟩
theorem keepCell {B : Nat} {w w' : World} {g o : Nat} {v : Value} (hb : Below B w w') (hg : g < B) (h : w.cell? ⟨g, o, none⟩ = some v) : w'.cell? ⟨g, o, none⟩ = some v :=
  (World.cell?_of_block (a := ⟨g, o, none⟩) (hb.block g hg)).trans h

/-- What is asked of a row's sizes. -/
def Fair (z : List TP) : Prop := ∀ t ∈ z, 0 ≤ t.1 ∧ t.1 ≤ 1000000000000 ∧ t.2.2.length ≤ 50000

end Go.Proofs.YtfehgpjnlkgekaaGreatDoor
