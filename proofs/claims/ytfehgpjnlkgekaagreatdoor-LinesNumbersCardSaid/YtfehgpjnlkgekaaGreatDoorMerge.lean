/-
  huff.merge: two rows of packs put together and sorted, stably.
  slices.Grow at nil, slices.Concat of two rows of numbers.
-/
import Derived.Test.YtfehgpjnlkgekaaGreatDoorSortIns
import Derived.Test.YtfehgpjnlkgekaaGreatDoorMem
import Derived.Lib.AppendZeros
namespace Go.Proofs.YtfehgpjnlkgekaaGreatDoor
open Go.RowKit
set_option linter.unusedVariables false

theorem flat_one {ps : List PV} (h : ∀ p ∈ ps, p.2.oneCell' = true) : ∀ v ∈ flat ps, v.oneCell' = true := by
  intro v hv
  unfold flat at hv
  obtain ⟨p, hp, hv⟩ := List.mem_flatMap.1 hv
  simp only [List.mem_cons, List.not_mem_nil, or_false] at hv
  rcases hv with rfl | rfl
  · rfl
  · exact h p hp

end Go.Proofs.YtfehgpjnlkgekaaGreatDoor
namespace Go.Proofs.YtfehgpjnlkgekaaGreatDoor
open Go.RowKit
set_option linter.unusedVariables false

/-- 'append(nil, make([]int, n)...)', n at least one. -/
theorem app_zeros {w : World} {ops : Array Oper} {rest : List Oper} {o : Oper} {a : Act} {Q : Exit → Act → World → Prop} (hgd : o.guard = none) (s x : Operand)
    (ho : o.op = .call { callee := .builtin .append, args := #[s, x], argTypes := #[43, 3] }) (n : Nat) (h0 : 0 < n) (hn : n ≤ 35184372088832) (hs : a.eval s = .slice none 0 0) (hx : a.eval x = .int .i64 n)
    (h : ∀ cap w1, n ≤ cap → w1.ownsRow w.heap.size 3 1 (.slice (some ⟨w.heap.size, 0, none⟩) 0 cap) 0 [] → w.grownBy w1 none → wpList Tryz.prog ops Q rest (a.put o.dst (.slice (some ⟨w.heap.size, 0, none⟩) n cap)) w1) :
    wpList Tryz.prog ops Q (o :: rest) a w := by
  obtain ⟨i0, hi, hz0, hz1, hz2⟩ := info_parts infoInt
  have hr := Lib.run_append_nil_zeros (P := Tryz.prog) w 43 3 o.type 3 i0 _ .i64 .i64 Tryz.underlying43 Tryz.underlying3 hi hz0 n h0 (by omega) (by omega) (by rw [hz2]; omega)
  refine wpList_plain hgd fun K hK => ?_
  unfold Oper.wp execOp
  simp only [ho, resolve, invoke, builtin, Sem.run_bind, Sem.run_pure, Result.andThen_ok, List.map_toArray, List.map_cons, List.map_nil, hs, hx, hr]
  have hge := grownCap_ge w n 0 3
  have hle := grownCap_le_maxLen w n 0 3 (by unfold maxLen; omega)
  refine hK _ _ (h _ _ hge ⟨rfl, .inr ⟨w.heap.size, _, _, rfl, Nat.le_refl _, heap_alloc_new w.drew _, Nat.zero_le _, hle, ?_, by simp⟩⟩ ⟨rfl, rfl, rfl, by simp, fun k hk _ => Below.heap_alloc w.drew _ k hk⟩)
  simp only [Array.size_append, size_zeroCells, Value.cells]
  simp
  omega

def GrowPost (w : World) (e : Ending) (w' : World) : Prop := ∃ v', e = .returned v' ∧ w'.ownsRow w.heap.size 3 1 v' 0 [] ∧ Below w.heap.size w w'

/-- A row of two slices of numbers, as a literal lays it. -/
def TwoPost (zs ys : List Int) (w : World) (e : Ending) (w' : World) : Prop :=
  ∃ v', e = .returned v' ∧ w'.ownsRow w.heap.size 3 1 v' (zs.length + ys.length) ((zs ++ ys).map (Value.int .i64)) ∧ Below w.heap.size w w'

def Cc1 (n m : Nat) (s i : Value) : Prop := ∃ k : Nat, k ≤ 2 ∧ i = .int .i64 k ∧ s = .int .i64 (if k = 0 then 0 else if k = 1 then n else n + m : Nat)
def Cc2 (zs ys : List Int) (w : World) (v i : Value) (wr : World) : Prop :=
  ∃ (k : Nat) (n : Nat) (l : List Int), k ≤ 2 ∧ i = .int .i64 k ∧ wr.ownsRow w.heap.size 3 1 v n (l.map (Value.int .i64)) ∧ (k = 0 ∧ l = [] ∨ k = 1 ∧ l = zs ∨ k = 2 ∧ l = zs ++ ys) ∧ Below w.heap.size w wr

end Go.Proofs.YtfehgpjnlkgekaaGreatDoor
