/-
  The library's insertion sort at rows of packs, and the comparison that 'merge' hands to it.
  slices.SortStableFunc at rows of packs that are short: what is asked of it, and that short rows meet it.
-/
import Derived.Test.YtfehgpjnlkgekaaGreatDoorMem
import Derived.Test.YtfehgpjnlkgekaaGreatDoorSortPlain
namespace Go.Proofs.YtfehgpjnlkgekaaGreatDoor
open Go.RowKit
set_option linter.unusedVariables false

def Small (x : Int) : Prop := -2305843009213693952 ≤ x ∧ x ≤ 2305843009213693952

theorem grown_below {w w' w'' : World} {row : Option Nat} (h : w.grownBy w' row) (hb : Below w'.heap.size w' w'') : w.grownBy w'' row :=
  ⟨hb.os.trans h.os, hb.tape.trans h.tape, hb.output.trans h.output, Nat.le_trans h.size hb.size, fun k hk hn => (hb.block k (Nat.lt_of_lt_of_le hk h.size)).trans (h.block k hk hn)⟩
theorem grown_drew {w w' : World} {row : Option Nat} (h : w.grownBy w' row) : w.grownBy w'.drew row := ⟨h.os, h.tape, h.output, h.size, h.block⟩

theorem pv_at (x l1 l2 r : List PV) (e : PV) (j : Nat) (hj : j = x.length + l1.length) : (x ++ (l1 ++ e :: l2) ++ r)[j]? = some e := by
  subst hj
  simp

theorem swap_set (x l0 l2 r : List PV) (q e : PV) (j : Nat) (hj : j - 1 = x.length + l0.length) (h1 : 1 ≤ j) :
    ((x ++ (l0 ++ q :: e :: l2) ++ r).set j q).set (j - 1) e = x ++ (l0 ++ e :: q :: l2) ++ r := by
  have e1 : x ++ (l0 ++ q :: e :: l2) ++ r = (x ++ l0) ++ q :: e :: (l2 ++ r) := by simp
  have e2 : x ++ (l0 ++ e :: q :: l2) ++ r = (x ++ l0) ++ e :: q :: (l2 ++ r) := by simp
  have hl : (x ++ l0).length = j - 1 := by simp; omega
  rw [e1, e2, List.set_append_right _ _ (by omega), hl, show j - (j - 1) = 1 from by omega]
  rw [List.set_append_right _ _ (by omega), hl, Nat.sub_self]
  rfl

end Go.Proofs.YtfehgpjnlkgekaaGreatDoor
namespace Go.Proofs.YtfehgpjnlkgekaaGreatDoor
open Go.RowKit
set_option linter.unusedVariables false

end Go.Proofs.YtfehgpjnlkgekaaGreatDoor
