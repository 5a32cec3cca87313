/-
  deflate: length, distance, trim.
  deflate.trim.
  deflate.runs: a row of lengths in parts.
-/
import Derived.Test.YtlhaehefhhcgaaaDoorStored
import Derived.Test.YtlhaehefhhcgaaaDoorDPlains
namespace Go.Proofs.YtlhaehefhhcgaaaDoor
open Go.RowKit
set_option linter.unusedVariables false

def PartPost (a b c : Nat) (w : World) (ev : Ending) (w' : World) : Prop := ev = .returned (.agg #[.int .i64 (a : Int), .int .i64 (b : Int), .int .i64 (c : Int)]) ∧ Below w.heap.size w w'
def LnI (T : List Int) (n m : Nat) (w1 : World) (k0 : Nat) (kv : Value) (wr : World) : Prop := k0 ≤ m ∧ kv = .int .i64 (k0 : Int) ∧ lastLe T n m = lastLe T n k0 ∧ wr = w1
theorem lb_rule : ∀ k, k < 29 → (lbits.getD k 0).toNat = if 8 ≤ k ∧ k < 28 then k / 4 - 1 else 0 := by decide
theorem db_rule : ∀ k, k < 30 → (dbits.getD k 0).toNat = if 4 ≤ k then k / 2 - 1 else 0 := by decide
end Go.Proofs.YtlhaehefhhcgaaaDoor
namespace Go.Proofs.YtlhaehefhhcgaaaDoor
open Go.RowKit
set_option linter.unusedVariables false

def TrI (l : List Int) (least n : Nat) (w : World) (k0 : Nat) (kv : Value) (wr : World) : Prop := k0 ≤ n ∧ kv = .int .i64 (k0 : Int) ∧ trimGo l least n = trimGo l least k0 ∧ least ≤ k0 ∧ wr = w
end Go.Proofs.YtlhaehefhhcgaaaDoor
namespace Go.Proofs.YtlhaehefhhcgaaaDoor
open Go.RowKit
set_option linter.unusedVariables false

def ptcell (q : Pt) : List Value := [.int .i64 (q.s : Int), .int .i64 (q.x : Int), .int .i64 (q.k : Int)]
theorem ptcells_len (l : List Pt) : (l.flatMap ptcell).length = l.length * 3 := by
  induction l with
  | nil => rfl
  | cons p l ih => simp [ptcell] at ih ⊢; omega
theorem ptcells_get : ∀ (l : List Pt) (i : Nat) (p : Pt), l[i]? = some p → (l.flatMap ptcell)[i * 3]? = some (.int .i64 (p.s : Int)) ∧ (l.flatMap ptcell)[i * 3 + 1]? = some (.int .i64 (p.x : Int)) ∧ (l.flatMap ptcell)[i * 3 + 2]? = some (.int .i64 (p.k : Int))
  | [], i, p, h => by simp at h
  | q :: l, 0, p, h => by
    obtain rfl : q = p := by simpa using h
    exact ⟨rfl, rfl, rfl⟩
  | q :: l, i + 1, p, h => by
    have ih := ptcells_get l i p (by simpa using h)
    rw [show (i + 1) * 3 = i * 3 + 3 by omega]
    exact ih
theorem ptcell_one (l : List Pt) : ∀ y ∈ l.flatMap ptcell, y.oneCell' = true := by
  intro y hy
  obtain ⟨q, _, hq⟩ := List.mem_flatMap.1 hy
  simp only [ptcell, List.mem_cons, List.not_mem_nil, or_false] at hq
  rcases hq with rfl | rfl | rfl <;> rfl
/-- The inner one: how many are alike. -/
def RnJ (z : Int) (l : List Int) (w : World) (k0 : Nat) (kv : Value) (wr : World) : Prop :=
  ∃ j, kv = .int .i64 ((j + 1 : Nat) : Int) ∧ j + k0 = l.length ∧ runOf z l = j + runOf z (l.drop j) ∧ Below w.heap.size w wr
theorem runsGo_step (f : Nat) (z : Int) (l : List Int) : runsGo (f + 1) (z :: l) =
    if z = 0 ∧ 11 ≤ runOf z l + 1 then ⟨18, min (runOf z l + 1) 138 - 11, 7⟩ :: runsGo f ((z :: l).drop (min (runOf z l + 1) 138))
    else if z = 0 ∧ 3 ≤ runOf z l + 1 then ⟨17, runOf z l + 1 - 3, 3⟩ :: runsGo f ((z :: l).drop (runOf z l + 1))
    else if 0 < z ∧ 4 ≤ runOf z l + 1 then ⟨z.toNat, 0, 0⟩ :: ⟨16, min (runOf z l + 1) 7 - 4, 2⟩ :: runsGo f ((z :: l).drop (min (runOf z l + 1) 7))
    else ⟨z.toNat, 0, 0⟩ :: runsGo f l := by rw [runsGo]
end Go.Proofs.YtlhaehefhhcgaaaDoor
