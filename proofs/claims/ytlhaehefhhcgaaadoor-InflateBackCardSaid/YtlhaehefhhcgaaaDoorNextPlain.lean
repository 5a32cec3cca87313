/-
  The next symbol, in plain words: as the program finds it, as the document tells it; they are the same.
-/
import Derived.Test.YtlhaehefhhcgaaaDoorNew
import Derived.Test.YtlhaehefhhcgaaaDoorHuffSpec
namespace Go.Proofs.YtlhaehefhhcgaaaDoor
set_option linter.unusedVariables false

/-- So many bits, the first one the highest. -/
def codeB (bt : List Int) : Nat → Int
  | 0 => 0
  | l + 1 => 2 * codeB bt l + bt.getD l 0
def hit (zs bt : List Int) (l : Nat) : Bool := decide (0 ≤ codeB bt l - firstAt zs l) && decide (codeB bt l - firstAt zs l < cntI zs l)
def symAt (zs bt : List Int) (l : Nat) : Int := (symL zs l).getD (codeB bt l - firstAt zs l).toNat 0
def nextGo (zs bt : List Int) : Nat → Nat → Option Int × Nat
  | 0, l => (none, l)
  | f + 1, l => if l < bt.length then (if hit zs bt (l + 1) then (some (symAt zs bt (l + 1)), l + 1) else nextGo zs bt f (l + 1)) else (none, l)
def nextOf (zs bt : List Int) : Option Int × Nat := nextGo zs bt (maxL zs).toNat 0

/-- As the document tells it. -/
def beginsB (zs : List Int) (v : Int) (k : Nat) : Bool :=
  (List.range zs.length).any fun i => decide (0 < zs.getD i 0) && (decide ((k : Int) ≤ zs.getD i 0) && codeAt zs i / 2 ^ (zs.getD i 0 - k).toNat == v)
def findB (zs : List Int) (v : Int) (k : Nat) : Option Nat := (List.range zs.length).find? fun i => decide (0 < k) && (zs.getD i 0 == (k : Int) && codeAt zs i == v)
def refGo (zs bt : List Int) : Nat → Nat → Option Int × Nat
  | 0, k => (none, k)
  | f + 1, k => if beginsB zs (codeB bt k) k then (match findB zs (codeB bt k) k with
      | some i => (some (i : Int), k)
      | none => if k < bt.length then refGo zs bt f (k + 1) else (none, k)) else (none, k)
def refNext (zs bt : List Int) : Option Int × Nat := refGo zs bt 17 0

theorem sym_at (zs : List Int) (l : Nat) : ∀ i, i < zs.length → zs.getD i 0 = (l : Int) → (symL zs l)[cnt (zs.take i) l]? = some (i : Int) := by
  have key : ∀ k, k ≤ zs.length → ∀ i, i < k → zs.getD i 0 = (l : Int) → (symL (zs.take k) l)[cnt (zs.take i) l]? = some (i : Int) := by
    intro k
    induction k with
    | zero => intro _ i hi; omega
    | succ k ih =>
      intro hk i hi hz
      rw [take_snoc zs k (by omega), symL_snoc, List.length_take, Nat.min_eq_left (by omega)]
      by_cases hik : i < k
      · have := ih (by omega) i hik hz
        rw [List.getElem?_append_left (by rcases Nat.lt_or_ge (cnt (zs.take i) l) (symL (zs.take k) l).length with h | h; exact h; rw [List.getElem?_eq_none h] at this; cases this)]
        exact this
      · obtain rfl : i = k := by omega
        rw [if_pos hz, List.getElem?_append_right (by rw [symL_len]; omega), symL_len]
        simp
  intro i hi hz
  have := key zs.length (Nat.le_refl _) i hi hz
  rwa [List.take_length] at this
theorem sym_back (zs : List Int) (l j : Nat) (hj : j < cnt zs l) : ∃ i, i < zs.length ∧ zs.getD i 0 = (l : Int) ∧ cnt (zs.take i) l = j := by
  have key : ∀ k, k ≤ zs.length → j < cnt (zs.take k) l → ∃ i, i < k ∧ zs.getD i 0 = (l : Int) ∧ cnt (zs.take i) l = j := by
    intro k
    induction k with
    | zero => intro _ h; simp [cnt] at h
    | succ k ih =>
      intro hk h
      by_cases h' : j < cnt (zs.take k) l
      · obtain ⟨i, h1, h2⟩ := ih (by omega) h'
        exact ⟨i, by omega, h2⟩
      · rw [take_snoc zs k (by omega), cnt_snoc] at h
        by_cases hz : zs.getD k 0 = (l : Int)
        · rw [if_pos hz] at h
          exact ⟨k, by omega, hz, by omega⟩
        · rw [if_neg hz] at h; omega
  exact key zs.length (Nat.le_refl _) (by rwa [List.take_length])

theorem code_of {zs : List Int} {i l : Nat} (hl : 0 < l) (hz : zs.getD i 0 = (l : Int)) : codeAt zs i = firstAt zs l + cnt (zs.take i) l := by
  unfold codeAt
  rw [hz, if_pos (by omega)]
  simp
theorem cnt_take_le (zs : List Int) (l i : Nat) (hi : i < zs.length) (hz : zs.getD i 0 = (l : Int)) : cnt (zs.take i) l < cnt zs l := by
  have := sym_at zs l i hi hz
  rw [← symL_len zs l]
  rcases Nat.lt_or_ge (cnt (zs.take i) l) (symL zs l).length with h | h
  · exact h
  · rw [List.getElem?_eq_none h] at this; cases this

theorem find_hit (zs bt : List Int) (k : Nat) (hk : 0 < k) : findB zs (codeB bt k) k = if hit zs bt k then some (symAt zs bt k).toNat else none := by
  have hck : cntI zs k = cnt zs k := by unfold cntI; rw [if_neg (by omega)]
  unfold findB
  cases hf : (List.range zs.length).find? fun i => decide (0 < k) && (zs.getD i 0 == (k : Int) && codeAt zs i == codeB bt k) with
  | none =>
    rw [List.find?_eq_none] at hf
    by_cases hh : hit zs bt k = true
    · simp only [hit, Bool.and_eq_true, decide_eq_true_eq] at hh
      obtain ⟨i, hi, hz, hc⟩ := sym_back zs k (codeB bt k - firstAt zs k).toNat (by omega)
      have hcode := code_of hk hz
      have := hf i (by simp [hi])
      simp only [hk, hz, decide_true, Bool.true_and, beq_self_eq_true, beq_iff_eq] at this
      omega
    · rw [if_neg hh]
  | some i =>
    have h1 := List.find?_some hf
    have hi : i < zs.length := by simpa using List.mem_of_find?_eq_some hf
    simp only [Bool.and_eq_true, decide_eq_true_eq, beq_iff_eq] at h1
    obtain ⟨_, hz, hc⟩ := h1
    have hcode := code_of hk hz
    have hlt := cnt_take_le zs k i hi hz
    have hh : hit zs bt k = true := by
      simp only [hit, Bool.and_eq_true, decide_eq_true_eq]
      omega
    rw [if_pos hh]
    have hs := sym_at zs k i hi hz
    have e : (codeB bt k - firstAt zs k).toNat = cnt (zs.take i) k := by omega
    unfold symAt
    rw [e]
    simp [List.getD, hs]
theorem sym_nonneg (zs bt : List Int) (k : Nat) : 0 ≤ symAt zs bt k := by
  unfold symAt
  rw [List.getD]
  cases h : (symL zs k)[(codeB bt k - firstAt zs k).toNat]? with
  | none => simp
  | some x =>
    have := List.mem_of_getElem? h
    simp only [symL, List.mem_map] at this
    obtain ⟨j, _, rfl⟩ := this
    simp

def Bit01 (bt : List Int) : Prop := ∀ b ∈ bt, b = 0 ∨ b = 1
theorem codeB_bd {bt : List Int} (h : Bit01 bt) : ∀ l, 0 ≤ codeB bt l ∧ codeB bt l + 1 ≤ 2 ^ l
  | 0 => by simp [codeB]
  | l + 1 => by
    have ih := codeB_bd h l
    have hb : bt.getD l 0 = 0 ∨ bt.getD l 0 = 1 := by
      rw [List.getD]
      cases hh : bt[l]? with
      | none => simp
      | some x => simpa using h x (List.mem_of_getElem? hh)
    simp only [codeB, Int.pow_succ]
    omega
def NoHit (zs bt : List Int) (k : Nat) : Prop := ∀ l, 1 ≤ l → l ≤ k → hit zs bt l = false
theorem noHit_le {zs bt : List Int} (h01 : Bit01 bt) : ∀ k, NoHit zs bt k → firstAt zs k + cntI zs k ≤ codeB bt k
  | 0, _ => by simp [firstAt, cntI, codeB]
  | k + 1, h => by
    have ih := noHit_le h01 k (fun l h1 h2 => h l h1 (by omega))
    have hh := h (k + 1) (by omega) (Nat.le_refl _)
    have hb : bt.getD k 0 = 0 ∨ bt.getD k 0 = 1 := by
      rw [List.getD]
      cases hh : bt[k]? with
      | none => simp
      | some x => simpa using h01 x (List.mem_of_getElem? hh)
    have e1 : firstAt zs (k + 1) = 2 * (firstAt zs k + cntI zs k) := rfl
    have e2 : codeB bt (k + 1) = 2 * codeB bt k + bt.getD k 0 := rfl
    simp only [hit, Bool.and_eq_false_iff, decide_eq_false_iff_not] at hh
    omega
theorem left_first (zs : List Int) : ∀ l, leftAt zs l = 2 ^ l - (firstAt zs l + cntI zs l)
  | 0 => by simp [leftAt, firstAt, cntI]
  | l + 1 => by
    have ih := left_first zs l
    have e1 : firstAt zs (l + 1) = 2 * (firstAt zs l + cntI zs l) := rfl
    simp only [leftAt, Int.pow_succ]
    omega
theorem first_step (P : Nat → Prop) (k : Nat) (h0 : ¬ P k) : ∀ m, P (k + m) → ∃ L, k ≤ L ∧ L < k + m ∧ ¬ P L ∧ P (L + 1)
  | 0, h => absurd h h0
  | m + 1, h => by
    by_cases hp : P (k + m)
    · obtain ⟨L, h1, h2, h3⟩ := first_step P k h0 m hp
      exact ⟨L, h1, by omega, h3⟩
    · exact ⟨k + m, by omega, by omega, hp, h⟩
theorem maxL_ge {zs : List Int} {i : Nat} (hi : i < zs.length) : zs.getD i 0 ≤ maxL zs := by
  have key : ∀ k, k ≤ zs.length → i < k → zs.getD i 0 ≤ maxL (zs.take k) := by
    intro k
    induction k with
    | zero => intro _ h; omega
    | succ k ih =>
      intro hk hik
      rw [take_snoc zs k (by omega), maxL_snoc]
      by_cases h : i < k
      · have := ih (by omega) h; omega
      · obtain rfl : i = k := by omega
        omega
  have := key zs.length (Nat.le_refl _) hi
  rwa [List.take_length] at this
theorem begins_of {zs : List Int} {v : Int} {k i : Nat} (hi : i < zs.length) (h0 : 0 < zs.getD i 0) (hk : (k : Int) ≤ zs.getD i 0) (hc : codeAt zs i / 2 ^ (zs.getD i 0 - k).toNat = v) : beginsB zs v k = true := by
  unfold beginsB
  rw [List.any_eq_true]
  exact ⟨i, by simpa using hi, by simp only [Bool.and_eq_true, decide_eq_true_eq, beq_iff_eq]; exact ⟨h0, hk, hc⟩⟩
/-- In a whole code every bit row that holds no code begins one. -/
theorem begins_whole {zs bt : List Int} (h01 : Bit01 bt) (hL : leftAt zs 15 = 0) {k : Nat} (hk : k ≤ 15) (hn : NoHit zs bt k) : beginsB zs (codeB bt k) k = true ∧ (k : Int) < maxL zs := by
  have hT := noHit_le h01 k hn
  have hb := codeB_bd h01 k
  have h15 := left_first zs 15
  obtain ⟨L, h1, h2, h3, h4⟩ := first_step (fun L => codeB bt k * 2 ^ (L - k) < firstAt zs L + cntI zs L) k (by simp; omega) (15 - k) (by
    rw [show k + (15 - k) = 15 from by omega]
    have e : (2 : Int) ^ 15 = 2 ^ k * 2 ^ (15 - k) := by rw [← Int.pow_add, show k + (15 - k) = 15 from by omega]
    have hpos : (0 : Int) < 2 ^ (15 - k) := Int.pow_pos (by omega)
    have h5 : (codeB bt k + 1) * 2 ^ (15 - k) ≤ 2 ^ k * 2 ^ (15 - k) := Int.mul_le_mul_of_nonneg_right hb.2 (by omega)
    rw [Int.add_mul] at h5
    omega)
  have hstep : codeB bt k * 2 ^ (L + 1 - k) = 2 * (codeB bt k * 2 ^ (L - k)) := by
    rw [show L + 1 - k = (L - k) + 1 from by omega, Int.pow_succ, ← Int.mul_assoc, Int.mul_comm]
  have e1 : firstAt zs (L + 1) = 2 * (firstAt zs L + cntI zs L) := rfl
  have e2 : cntI zs (L + 1) = cnt zs (L + 1) := by unfold cntI; rw [if_neg (by omega)]
  obtain ⟨i, hi, hz, hc⟩ := sym_back zs (L + 1) (codeB bt k * 2 ^ (L + 1 - k) - firstAt zs (L + 1)).toNat (by omega)
  have hcode := code_of (by omega) hz
  have hm := maxL_ge hi
  refine ⟨begins_of hi (by omega) (by omega) ?_, by omega⟩
  have e3 : codeAt zs i = codeB bt k * 2 ^ (L + 1 - k) := by omega
  rw [e3, hz, show ((L + 1 : Nat) : Int) - k = ((L + 1 - k : Nat) : Int) from by omega, Int.toNat_natCast]
  exact Int.mul_ediv_cancel _ (Int.ne_of_gt (Int.pow_pos (by omega)))
theorem begins_hit {zs bt : List Int} {k : Nat} (hk : 0 < k) (hh : hit zs bt k = true) : beginsB zs (codeB bt k) k = true := by
  simp only [hit, Bool.and_eq_true, decide_eq_true_eq] at hh
  have e2 : cntI zs k = cnt zs k := by unfold cntI; rw [if_neg (by omega)]
  obtain ⟨i, hi, hz, hc⟩ := sym_back zs k (codeB bt k - firstAt zs k).toNat (by omega)
  have hcode := code_of hk hz
  refine begins_of hi (by omega) (by omega) ?_
  rw [hz, show (k : Int) - k = 0 from by omega]
  simp
  omega
theorem find_zero (zs : List Int) (v : Int) : findB zs v 0 = none := by simp [findB]
theorem find_no {zs bt : List Int} {k : Nat} (hn : NoHit zs bt k) : findB zs (codeB bt k) k = none := by
  rcases Nat.eq_zero_or_pos k with rfl | hk
  · exact find_zero _ _
  · rw [find_hit zs bt k hk, hn k hk (Nat.le_refl _)]; rfl

theorem whole_go {zs bt : List Int} (h01 : Bit01 bt) (hL : leftAt zs 15 = 0) (hm : maxL zs ≤ 15) : ∀ f k, f + k = 16 → NoHit zs bt k → refGo zs bt (f + 1) k = nextGo zs bt ((maxL zs).toNat - k) k := by
  intro f
  induction f with
  | zero =>
    intro k hfk hn
    exact absurd (begins_whole h01 hL (k := 15) (by omega) (fun l h1 h2 => hn l h1 (by omega))).2 (by omega)
  | succ f ih =>
    intro k hfk hn
    obtain ⟨hb, hlt⟩ := begins_whole h01 hL (by omega) hn
    rw [refGo, if_pos hb, find_no hn]
    rw [show (maxL zs).toNat - k = ((maxL zs).toNat - (k + 1)) + 1 from by omega, nextGo]
    by_cases hl : k < bt.length
    · simp only [hl, if_true]
      by_cases hh : hit zs bt (k + 1) = true
      · rw [refGo, if_pos (begins_hit (by omega) hh), find_hit _ _ _ (by omega), if_pos hh, if_pos hh]
        have := sym_nonneg zs bt (k + 1)
        simp only [Prod.mk.injEq, Option.some.injEq, and_true]
        omega
      · rw [if_neg hh]
        exact ih (k + 1) (by omega) (fun l h1 h2 => by
          by_cases hl' : l = k + 1
          · subst hl'; simpa using hh
          · exact hn l h1 (by omega))
    · simp [hl]
theorem posn_none {zs : List Int} (h : posn zs = 0) : ∀ i, i < zs.length → ¬ 0 < zs.getD i 0 := by
  intro i hi hp
  unfold posn at h
  have := List.filter_eq_nil_iff.1 (List.eq_nil_of_length_eq_zero h) (zs.getD i 0) (by simp [hi])
  simp at this
  simp at hp
  omega
theorem posn_ge2 (zs : List Int) {a b : Nat} (ha : 0 < a) (hb : 0 < b) (hab : a ≠ b) : cnt zs a + cnt zs b ≤ posn zs := by
  have key : ∀ k, k ≤ zs.length → cnt (zs.take k) a + cnt (zs.take k) b ≤ posn (zs.take k) := by
    intro k
    induction k with
    | zero => intro _; simp [cnt, posn]
    | succ k ih =>
      intro hk
      have := ih (by omega)
      rw [take_snoc zs k (by omega), cnt_snoc, cnt_snoc, posn_snoc]
      by_cases h1 : zs.getD k 0 = (a : Int)
      · rw [if_pos h1, if_neg (by omega), if_pos (by omega)]; omega
      · rw [if_neg h1]
        by_cases h2 : zs.getD k 0 = (b : Int)
        · rw [if_pos h2, if_pos (by omega)]; omega
        · rw [if_neg h2]; omega
  have := key zs.length (Nat.le_refl _)
  rwa [List.take_length] at this
theorem maxL_le {zs : List Int} {b : Int} (hb : 0 ≤ b) (h : ∀ i, i < zs.length → zs.getD i 0 ≤ b) : maxL zs ≤ b := (foldl_max zs 0).2 b hb (fun z hz => by
  obtain ⟨i, hi, rfl⟩ := List.getElem_of_mem hz
  have := h i hi
  simpa [hi] using this)
theorem next_same {zs bt : List Int} (h01 : Bit01 bt) (hok : countsOk zs = true) : refNext zs bt = nextOf zs bt := by
  have hm := maxL_hi hok zs.length
  rw [List.take_length] at hm
  have hm0 := maxL_lo zs
  by_cases hL : leftAt zs 15 = 0
  · have := whole_go h01 hL hm 16 0 (by omega) (fun l h1 h2 => by omega)
    unfold refNext nextOf
    rw [this]; rfl
  · have hor : posn zs = 0 ∨ (posn zs = 1 ∧ cnt zs 1 = 1) := by
      simp only [countsOk, Bool.and_eq_true, Bool.or_eq_true, beq_iff_eq] at hok
      rcases hok.2 with h | h | ⟨h1, h2⟩
      · exact absurd h hL
      · exact .inl (by omega)
      · exact .inr ⟨by omega, by simp only [cntI] at h2; simp at h2; omega⟩
    rcases hor with h0 | ⟨h1, hc1⟩
    · have hno := posn_none h0
      have hmx : maxL zs ≤ 0 := maxL_le (Int.le_refl _) (fun i hi => by have := hno i hi; omega)
      have hb : beginsB zs (codeB bt 0) 0 = false := by
        unfold beginsB
        rw [List.any_eq_false]
        intro i hi
        have := hno i (by simpa using hi)
        simp
        intro h
        simp at this
        omega
      unfold refNext nextOf
      rw [show (maxL zs).toNat = 0 from by omega, refGo, hb]
      rfl
    · obtain ⟨i, hi, hz, hc⟩ := sym_back zs 1 0 (by omega)
      have hall : ∀ j, j < zs.length → 0 < zs.getD j 0 → zs.getD j 0 = 1 := by
        intro j hj hp
        by_cases h : zs.getD j 0 = 1
        · exact h
        · have e : zs.getD j 0 = ((zs.getD j 0).toNat : Int) := by omega
          have h2 := cnt_take_le zs _ j hj e
          have h3 := posn_ge2 zs (a := 1) (b := (zs.getD j 0).toNat) (by omega) (by omega) (by omega)
          omega
      have hmx : maxL zs = 1 := by
        have h2 := maxL_ge hi
        have h3 : maxL zs ≤ 1 := maxL_le (by omega) (fun j hj => by
          by_cases hp : 0 < zs.getD j 0
          · rw [hall j hj hp]; omega
          · omega)
        omega
      have hcode := code_of (by omega) hz
      have hf1 : firstAt zs 1 = 0 := by simp [firstAt, cntI]
      have hb0 : beginsB zs (codeB bt 0) 0 = true := begins_of hi (by omega) (by omega) (by rw [hcode, hf1, hc]; simp [codeB])
      unfold refNext nextOf
      rw [hmx, refGo, if_pos hb0, find_zero]
      simp only [Int.toNat_one, nextGo]
      by_cases hl : 0 < bt.length
      · simp only [hl, if_true, Nat.zero_add]
        by_cases hh : hit zs bt 1 = true
        · rw [refGo, if_pos (begins_hit (by omega) hh), find_hit _ _ _ (by omega), if_pos hh, if_pos hh]
          have := sym_nonneg zs bt 1
          simp only [Prod.mk.injEq, Option.some.injEq, and_true]
          omega
        · rw [if_neg hh]
          have hb1 : beginsB zs (codeB bt 1) 1 = false := by
            unfold beginsB
            rw [List.any_eq_false]
            intro j hj hp
            simp only [Bool.and_eq_true, decide_eq_true_eq, beq_iff_eq] at hp
            obtain ⟨hp1, hp2, hp3⟩ := hp
            have hj' : j < zs.length := by simpa using hj
            have hz1 := hall j hj' hp1
            have hcj := code_of (l := 1) (by omega) hz1
            have hlt := cnt_take_le zs 1 j hj' hz1
            rw [hz1] at hp3
            simp at hp3
            apply hh
            simp only [hit, Bool.and_eq_true, decide_eq_true_eq]
            have e2 : cntI zs 1 = cnt zs 1 := by unfold cntI; rw [if_neg (by omega)]
            omega
          rw [refGo, hb1]
          rfl
      · simp [hl]
end Go.Proofs.YtlhaehefhhcgaaaDoor
