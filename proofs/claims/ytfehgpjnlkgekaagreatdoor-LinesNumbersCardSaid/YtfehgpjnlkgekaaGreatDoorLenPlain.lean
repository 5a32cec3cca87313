/-
  Packages that are merged, in plain words: the rows that 'Lengths' goes through, their sizes, and what it counts.
-/
import Derived.Test.YtfehgpjnlkgekaaGreatDoorSortPlain
import Derived.Test.YtfehgpjnlkgekaaGreatDoorHuffSpec
namespace Go.Proofs.YtfehgpjnlkgekaaGreatDoor
set_option linter.unusedVariables false

abbrev AP := Int × List Int
def pairsOf : List AP → List AP
  | a :: b :: r => (a.1 + b.1, a.2 ++ b.2) :: pairsOf r
  | _ => []
theorem pairsOf_snoc : ∀ (l : List AP) (a b : AP) (k : Nat), l.length = 2 * k → pairsOf (l ++ [a, b]) = pairsOf l ++ [(a.1 + b.1, a.2 ++ b.2)]
  | [], a, b, _, _ => rfl
  | [x], a, b, k, h => by simp at h; omega
  | x :: y :: l, a, b, k, h => by
    show pairsOf (x :: y :: (l ++ [a, b])) = pairsOf (x :: y :: l) ++ _
    simp only [pairsOf, List.cons_append]
    rw [pairsOf_snoc l a b (k - 1) (by simp at h; omega)]
theorem pairsOf_odd : ∀ (l : List AP) (a : AP) (k : Nat), l.length = 2 * k → pairsOf (l ++ [a]) = pairsOf l
  | [], a, _, _ => rfl
  | [x], a, k, h => by simp at h; omega
  | x :: y :: l, a, k, h => by
    show pairsOf (x :: y :: (l ++ [a])) = pairsOf (x :: y :: l)
    simp only [pairsOf]
    rw [pairsOf_odd l a (k - 1) (by simp at h; omega)]
theorem pairsOf_len : ∀ (l : List AP), (pairsOf l).length = l.length / 2
  | [] => rfl
  | [x] => by simp [pairsOf]
  | x :: y :: l => by simp only [pairsOf, List.length_cons, pairsOf_len l]; omega

/-- The packs of single symbols: those of weights above nought. -/
def onesOf (l : List Int) : List AP := (List.range l.length).filterMap fun i => if 0 < l.getD i 0 then some (l.getD i 0, [(i : Int)]) else none
theorem filterMap_same {α γ : Type} {f g : α → Option γ} : ∀ {l : List α}, (∀ x ∈ l, f x = g x) → l.filterMap f = l.filterMap g
  | [], _ => rfl
  | x :: l, h => by
    have ih := filterMap_same (l := l) (fun y hy => h y (by simp [hy]))
    simp only [List.filterMap_cons, h x (by simp), ih]
theorem onesOf_snoc (l : List Int) (f : Int) : onesOf (l ++ [f]) = onesOf l ++ if 0 < f then [(f, [(l.length : Int)])] else [] := by
  unfold onesOf
  rw [List.length_append, List.length_singleton, List.range_succ, List.filterMap_append]
  congr 1
  · apply filterMap_same
    intro i hi
    have hi' : i < l.length := by simpa using hi
    simp [List.getElem?_append_left hi']
  · by_cases h : 0 < f <;> simp [h]
def fairF (f : Int) : Bool := decide (0 ≤ f) && decide (f ≤ 1048576)
def rowAt (one : List AP) : Nat → List AP
  | 0 => one
  | k + 1 => stSort (one ++ pairsOf (rowAt one k))
def symsOf (l : List AP) : List Int := l.flatMap (·.2)

/-- Weights and numbers of symbols, added up. -/
def wsum (l : List AP) : Int := (l.map (·.1)).sum
def ssum (l : List AP) : Nat := (l.map fun p => p.2.length).sum
theorem wsum_append (a b : List AP) : wsum (a ++ b) = wsum a + wsum b := by simp [wsum]
theorem ssum_append (a b : List AP) : ssum (a ++ b) = ssum a + ssum b := by simp [ssum]
theorem perm_sum : ∀ {a b : List Int}, a.Perm b → a.sum = b.sum := by
  intro a b h
  induction h with
  | nil => rfl
  | cons x _ ih => simp [ih]
  | swap x y l => simp; omega
  | trans _ _ h1 h2 => exact h1.trans h2
theorem perm_sumN : ∀ {a b : List Nat}, a.Perm b → a.sum = b.sum := by
  intro a b h
  induction h with
  | nil => rfl
  | cons x _ ih => simp [ih]
  | swap x y l => simp; omega
  | trans _ _ h1 h2 => exact h1.trans h2
theorem wsum_sort (l : List AP) : wsum (stSort l) = wsum l := perm_sum ((stSort_steq l).1.symm.map _)
theorem ssum_sort (l : List AP) : ssum (stSort l) = ssum l := perm_sumN ((stSort_steq l).1.symm.map _)
def Pos (l : List AP) : Prop := ∀ p ∈ l, 0 ≤ p.1
theorem pairs_sums : ∀ (l : List AP), Pos l → wsum (pairsOf l) ≤ wsum l ∧ ssum (pairsOf l) ≤ ssum l ∧ Pos (pairsOf l)
  | [], _ => by simp [pairsOf, wsum, ssum, Pos]
  | [x], h => by
    have := h x (by simp)
    simp [pairsOf, wsum, ssum, Pos]; omega
  | x :: y :: l, h => by
    obtain ⟨h1, h2, h3⟩ := pairs_sums l (fun p hp => h p (by simp [hp]))
    have hx := h x (by simp)
    have hy := h y (by simp)
    simp only [pairsOf, wsum, ssum, List.map_cons, List.sum_cons, List.length_append] at h1 h2 ⊢
    refine ⟨by omega, by omega, fun p hp => ?_⟩
    rcases List.mem_cons.1 hp with rfl | hp
    · dsimp only; omega
    · exact h3 p hp
theorem pos_sort {l : List AP} (h : Pos l) : Pos (stSort l) := fun p hp => h p (((stSort_steq l).mem p).2 hp)
theorem row_sums (one : List AP) (h : Pos one) : ∀ k, wsum (rowAt one k) ≤ (k + 1) * wsum one ∧ ssum (rowAt one k) ≤ (k + 1) * ssum one ∧ Pos (rowAt one k)
  | 0 => by simp [rowAt]; exact h
  | k + 1 => by
    obtain ⟨h1, h2, h3⟩ := row_sums one h k
    obtain ⟨h4, h5, h6⟩ := pairs_sums _ h3
    simp only [rowAt]
    rw [wsum_sort, ssum_sort, wsum_append, ssum_append]
    refine ⟨?_, ?_, pos_sort (fun p hp => ?_)⟩
    · have e : (((k + 1 : Nat) : Int) + 1) * wsum one = ((k : Int) + 1) * wsum one + wsum one := by rw [Int.add_mul]; simp
      rw [e]; omega
    · have e : (k + 1 + 1) * ssum one = (k + 1) * ssum one + ssum one := by rw [Nat.add_mul]; simp
      rw [e]; omega
    · rcases List.mem_append.1 hp with hp | hp
      · exact h p hp
      · exact h6 p hp
theorem le_wsum : ∀ {l : List AP} {p : AP}, Pos l → p ∈ l → p.1 ≤ wsum l
  | q :: l, p, h, hp => by
    have hq := h q (by simp)
    have hs : 0 ≤ wsum l := by
      have hl : Pos l := fun p hp => h p (by simp [hp])
      clear h hp hq
      induction l with
      | nil => simp [wsum]
      | cons r l ih =>
        have := hl r (by simp)
        have := ih (fun p hp => hl p (by simp [hp]))
        simp only [wsum, List.map_cons, List.sum_cons] at *; omega
    simp only [wsum, List.map_cons, List.sum_cons]
    rcases List.mem_cons.1 hp with rfl | hp
    · simp only [wsum] at hs; omega
    · have := le_wsum (fun p hp => h p (by simp [hp])) hp
      simp only [wsum] at this; omega
theorem le_ssum : ∀ {l : List AP} {p : AP}, p ∈ l → p.2.length ≤ ssum l
  | q :: l, p, hp => by
    simp only [ssum, List.map_cons, List.sum_cons]
    rcases List.mem_cons.1 hp with rfl | hp
    · omega
    · have := le_ssum hp
      simp only [ssum] at this; omega
theorem rowAt_len (one : List AP) : ∀ k, (rowAt one (k + 1)).length = one.length + (rowAt one k).length / 2 := by
  intro k
  simp only [rowAt]
  rw [stSort_len, List.length_append, pairsOf_len]
theorem rowAt_le (one : List AP) : ∀ k, (rowAt one k).length ≤ 2 * one.length ∧ one.length ≤ (rowAt one k).length
  | 0 => by simp [rowAt]; omega
  | k + 1 => by have := rowAt_le one k; rw [rowAt_len]; omega
theorem rowAt_last (one : List AP) (ms : Nat) (h : one.length ≤ 2 ^ ms) : ∀ k, k ≤ ms → 2 * one.length ≤ (rowAt one k).length + 2 ^ (ms - k)
  | 0, _ => by simp [rowAt]; omega
  | k + 1, hk => by
    have ih := rowAt_last one ms h k (by omega)
    have e : 2 ^ (ms - k) = 2 * 2 ^ (ms - (k + 1)) := by
      rw [show ms - k = (ms - (k + 1)) + 1 from by omega, Nat.pow_succ]; omega
    rw [rowAt_len]
    rw [e] at ih
    omega
/-- Every symbol is one of the n. -/
def Within (n : Nat) (l : List AP) : Prop := ∀ p ∈ l, ∀ s ∈ p.2, 0 ≤ s ∧ s < n
theorem within_pairs {n : Nat} : ∀ {l : List AP}, Within n l → Within n (pairsOf l)
  | [], _ => by simp [pairsOf, Within]
  | [x], _ => by simp [pairsOf, Within]
  | x :: y :: l, h => by
    intro p hp s hs
    simp only [pairsOf] at hp
    rcases List.mem_cons.1 hp with rfl | hp
    · rcases List.mem_append.1 hs with hs | hs
      · exact h x (by simp) s hs
      · exact h y (by simp) s hs
    · exact within_pairs (fun p hp => h p (by simp [hp])) p hp s hs
theorem within_sort {n : Nat} {l : List AP} (h : Within n l) : Within n (stSort l) := fun p hp => h p (((stSort_steq l).mem p).2 hp)
theorem within_row {n : Nat} {one : List AP} (h : Within n one) : ∀ k, Within n (rowAt one k)
  | 0 => h
  | k + 1 => within_sort (fun p hp => by
    rcases List.mem_append.1 hp with hp | hp
    · exact h p hp
    · exact within_pairs (within_row h k) p hp)
theorem ones_facts (l : List Int) (h : l.all fairF = true) : Pos (onesOf l) ∧ Within l.length (onesOf l) ∧ (∀ p ∈ onesOf l, p.1 ≤ 1048576 ∧ p.2.length = 1) ∧ (onesOf l).length ≤ l.length := by
  have hm : ∀ p ∈ onesOf l, ∃ i, i < l.length ∧ 0 < l.getD i 0 ∧ p = (l.getD i 0, [(i : Int)]) := by
    intro p hp
    obtain ⟨i, hi, he⟩ := List.mem_filterMap.1 hp
    have hi' : i < l.length := by simpa using hi
    by_cases h0 : 0 < l.getD i 0
    · rw [if_pos h0] at he
      injection he with he
      exact ⟨i, hi', h0, he.symm⟩
    · rw [if_neg h0] at he; cases he
  refine ⟨fun p hp => ?_, fun p hp s hs => ?_, fun p hp => ?_, ?_⟩
  · obtain ⟨i, _, h0, rfl⟩ := hm p hp
    dsimp only; omega
  · obtain ⟨i, hi, _, rfl⟩ := hm p hp
    obtain rfl : s = (i : Int) := by simpa using hs
    omega
  · obtain ⟨i, hi, h0, rfl⟩ := hm p hp
    have := List.all_eq_true.1 h (l.getD i 0) (by simp [hi])
    simp only [fairF, Bool.and_eq_true, decide_eq_true_eq] at this
    exact ⟨this.2, rfl⟩
  · unfold onesOf
    exact Nat.le_trans (List.length_filterMap_le _ _) (by simp)
theorem wsum_bd : ∀ (l : List AP), (∀ p ∈ l, p.1 ≤ 1048576 ∧ p.2.length = 1) → wsum l ≤ l.length * 1048576 ∧ ssum l = l.length
  | [], _ => by simp [wsum, ssum]
  | q :: l, h => by
    obtain ⟨h1, h2⟩ := wsum_bd l (fun p hp => h p (by simp [hp]))
    obtain ⟨h3, h4⟩ := h q (by simp)
    simp only [wsum, ssum, List.map_cons, List.sum_cons, List.length_cons] at *
    omega
/-- What is known of every row of n lengths at most 288, to 15 rounds. -/
theorem row_fair (l : List Int) (h : l.all fairF = true) (hl : l.length ≤ 288) (k : Nat) (hk : k ≤ 15) :
    ∀ p ∈ rowAt (stSort (onesOf l)) k, 0 ≤ p.1 ∧ p.1 ≤ 1000000000000 ∧ p.2.length ≤ 50000 := by
  obtain ⟨h1, h2, h3, h4⟩ := ones_facts l h
  obtain ⟨h5, h6⟩ := wsum_bd _ h3
  obtain ⟨h7, h8, h9⟩ := row_sums (stSort (onesOf l)) (pos_sort h1) k
  rw [wsum_sort] at h7
  rw [ssum_sort, h6] at h8
  intro p hp
  have h10 := le_wsum h9 hp
  have h11 := le_ssum hp
  have e1 : ((k : Int) + 1) * wsum (onesOf l) ≤ 16 * (288 * 1048576) := by
    have hw : wsum (onesOf l) ≤ 288 * 1048576 := by omega
    have hw0 : 0 ≤ wsum (onesOf l) := by
      have : ∀ (l : List AP), Pos l → 0 ≤ wsum l := by
        intro l hl
        induction l with
        | nil => simp [wsum]
        | cons r l ih =>
          have := hl r (by simp)
          have := ih (fun p hp => hl p (by simp [hp]))
          simp only [wsum, List.map_cons, List.sum_cons] at *; omega
      exact this _ h1
    exact Int.mul_le_mul (by omega) hw hw0 (by omega)
  have e2 : (k + 1) * (onesOf l).length ≤ 16 * 288 := Nat.mul_le_mul (by omega) (by omega)
  exact ⟨h9 p hp, by omega, by omega⟩

theorem row_ssum (l : List Int) (h : l.all fairF = true) (hl : l.length ≤ 288) (k : Nat) (hk : k ≤ 15) : ssum (rowAt (stSort (onesOf l)) k) ≤ 4608 := by
  obtain ⟨h1, _, h3, h4⟩ := ones_facts l h
  obtain ⟨_, h6⟩ := wsum_bd _ h3
  obtain ⟨_, h8, _⟩ := row_sums (stSort (onesOf l)) (pos_sort h1) k
  rw [ssum_sort, h6] at h8
  have e2 : (k + 1) * (onesOf l).length ≤ 16 * 288 := Nat.mul_le_mul (by omega) (by omega)
  omega
theorem symsOf_len (l : List AP) : (symsOf l).length = ssum l := by
  induction l with
  | nil => rfl
  | cons p l ih => simp only [symsOf, ssum, List.flatMap_cons, List.length_append, List.map_cons, List.sum_cons] at *; omega
theorem ssum_take (l : List AP) (p : Nat) : ssum (l.take p) ≤ ssum l := by
  have := ssum_append (l.take p) (l.drop p)
  rw [List.take_append_drop] at this
  omega
/-- What 'Lengths' tells: how often each symbol stands in the first packs of the last row. -/
def lengthsOf (l : List Int) (most : Nat) : List Int :=
  if (onesOf l).length = 0 then List.replicate l.length 0
  else if (onesOf l).length = 1 then (List.range l.length).map fun s => cnt (symsOf (onesOf l)) s
  else (List.range l.length).map fun s => cnt (symsOf ((rowAt (stSort (onesOf l)) (most - 1)).take (2 * (onesOf l).length - 2))) s
def lengthsOk (l : List Int) (most : Int) : Bool :=
  decide (l.length ≤ 288) && decide (1 ≤ most) && decide (most ≤ 15) && l.all fairF && decide ((onesOf l).length ≤ 2 ^ most.toNat)
end Go.Proofs.YtfehgpjnlkgekaaGreatDoor
