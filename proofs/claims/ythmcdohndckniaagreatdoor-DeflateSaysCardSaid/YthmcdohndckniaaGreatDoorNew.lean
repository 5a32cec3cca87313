/-
  huff.New: the decoder of lengths.
-/
import Derived.Test.YthmcdohndckniaaGreatDoorHuffCodes
import Derived.Test.YthmcdohndckniaaGreatDoorPairs
import Derived.Test.YthmcdohndckniaaGreatDoorMem
namespace Go.Proofs.YthmcdohndckniaaGreatDoor
open Go.RowKit
set_option linter.unusedVariables false

/-- The symbols of length l, rising. -/
def symL (zs : List Int) (l : Nat) : List Int := ((List.range zs.length).filter fun j => zs.getD j 0 == (l : Int)).map fun j : Nat => (j : Int)
theorem filter_same {α : Type} {f g : α → Bool} {l : List α} (h : ∀ x ∈ l, f x = g x) : l.filter f = l.filter g := List.filter_congr h
theorem symL_snoc (zs : List Int) (z : Int) (l : Nat) : symL (zs ++ [z]) l = symL zs l ++ if z = (l : Int) then [(zs.length : Int)] else [] := by
  unfold symL
  rw [List.length_append, List.length_singleton, List.range_succ, List.filter_append, List.map_append]
  congr 1
  · congr 1
    apply filter_same
    intro j hj
    have hj' : j < zs.length := by simpa using hj
    simp [List.getElem?_append_left hj']
  · by_cases h : z = (l : Int) <;> simp [h]
theorem symL_len (zs : List Int) (l : Nat) : (symL zs l).length = cnt zs l := by
  have key : ∀ k, k ≤ zs.length → (symL (zs.take k) l).length = cnt (zs.take k) l := by
    intro k
    induction k with
    | zero => intro _; simp [symL, cnt]
    | succ k ih =>
      intro hk
      rw [take_snoc zs k (by omega), symL_snoc, cnt_snoc, List.length_append, ih (by omega)]
      split <;> simp
  have := key zs.length (Nat.le_refl _)
  rwa [List.take_length] at this
def maxL (zs : List Int) : Int := zs.foldl max 0
theorem maxL_snoc (zs : List Int) (z : Int) : maxL (zs ++ [z]) = max (maxL zs) z := by simp [maxL]

/-- The cells of a decoder. -/
def decC (zs : List Int) (vs : Nat → Value) (most : Int) (i : Nat) : Value :=
  if i < 16 then cntv zs i else if i < 32 then fstv zs (i - 16) else if i < 48 then vs (i - 32) else if i = 48 then .int .i64 most else .bool true
def decZ (zs : List Int) : Array Value := rowOf (decC zs (fun _ => .slice none 0 0) 0) 50
section
variable {P : Program} {l : List Oper} {Q : Exit → Act → World → Prop} {S : Nat → World → Prop}
theorem qs_build {o : Oper} {r : List (Oper × Option Nat)} {k m : Nat} {a : Act} {w : World} (hw : Region.wanted o (yielded l.toArray a.tmps) = true) (t : TypeId) (parts : Array (Nat × Operand)) (ho : o.op = .build t parts)
    (cells : Array Value) (hf : P.built t (parts.map fun (i, x) => (i, a.eval x)).toList = some cells) (h : wpQs P l Q S r k (a.put o.dst (.agg cells)) w) : wpQs P l Q S ((o, some m) :: r) k a w :=
  ⟨_, .inl ⟨hw, fun w' _ => by
    unfold execOp
    simp only [ho, Sem.run_bind, run_build w' t _ cells hf, Result.andThen_ok]
    rfl⟩, h⟩
end

theorem foldl_max (zs : List Int) : ∀ m : Int, m ≤ zs.foldl max m ∧ (∀ b, m ≤ b → (∀ z ∈ zs, z ≤ b) → zs.foldl max m ≤ b) := by
  induction zs with
  | nil => intro m; exact ⟨Int.le_refl _, fun b h _ => h⟩
  | cons z zs ih =>
    intro m
    have := ih (max m z)
    exact ⟨by have := this.1; simp only [List.foldl_cons]; omega, fun b h1 h2 => this.2 b (by have := h2 z (by simp); omega) (fun y hy => h2 y (by simp [hy]))⟩
theorem maxL_lo (zs : List Int) : 0 ≤ maxL zs := (foldl_max zs 0).1
theorem maxL_hi {zs : List Int} (h : countsOk zs = true) (k : Nat) : maxL (zs.take k) ≤ 15 := (foldl_max _ 0).2 15 (by omega) (fun z hz => by
  obtain ⟨i, hi, rfl⟩ := List.getElem_of_mem (List.mem_of_mem_take hz)
  have := (okLen_of h hi).2
  simpa [hi] using this)
theorem decC_row (zs : List Int) (vs : Nat → Value) (m : Int) {l : Nat} (h : l < 16) : decC zs vs m (32 + l) = vs l := by
  unfold decC
  rw [if_neg (by omega), if_neg (by omega), if_pos (by omega), show 32 + l - 32 = l from by omega]
theorem own_from0 {w : World} {base : Nat} {e : TypeId} {size n : Nat} {v : Value} {xs : List Value} (h : w.ownsRow base e size v n xs) : w.ownsRow 0 e size v n xs :=
  ⟨h.1, h.2.imp id (fun ⟨a, b, c, d, _, f⟩ => ⟨a, b, c, d, Nat.zero_le _, f⟩)⟩
end Go.Proofs.YthmcdohndckniaaGreatDoor
