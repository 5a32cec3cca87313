/-
  Plain words on code lengths: how many there are of each, what is left, the first codes.
  What the document asks of lengths that make a code is what the program asks.
-/

namespace Go.Proofs.YtfehgpjnlkgekaaGreatDoor

/-- How many of the lengths are l. -/
def cnt (zs : List Int) (l : Nat) : Nat := (zs.filter (fun z => z == (l : Int))).length
/-- The row that 'counts' makes: place 0 stays 0. -/
def cntI (zs : List Int) (l : Nat) : Int := if l = 0 then 0 else (cnt zs l : Int)
def posn (zs : List Int) : Nat := (zs.filter (fun z => decide (0 < z))).length
def okLen (z : Int) : Bool := decide (0 ≤ z) && decide (z ≤ 15)
/-- What is left of the codes of l bits. -/
def leftAt (zs : List Int) : Nat → Int
  | 0 => 1
  | l + 1 => 2 * leftAt zs l - cntI zs (l + 1)
def leftsOk (zs : List Int) : Nat → Bool
  | 0 => true
  | l + 1 => leftsOk zs l && decide (0 ≤ leftAt zs (l + 1))
def countsOk (zs : List Int) : Bool :=
  decide (zs.length ≤ 288) && zs.all okLen && leftsOk zs 15 && (leftAt zs 15 == 0 || ((posn zs : Int) == 0 || ((posn zs : Int) == 1 && cntI zs 1 == 1)))
/-- The first code of length l. -/
def firstAt (zs : List Int) : Nat → Int
  | 0 => 0
  | l + 1 => 2 * (firstAt zs l + cntI zs l)

theorem cnt_snoc (zs : List Int) (z : Int) (l : Nat) : cnt (zs ++ [z]) l = cnt zs l + if z = (l : Int) then 1 else 0 := by
  unfold cnt
  rw [List.filter_append, List.length_append]
  by_cases h : z = (l : Int) <;> simp [h]
theorem posn_snoc (zs : List Int) (z : Int) : posn (zs ++ [z]) = posn zs + if 0 < z then 1 else 0 := by
  unfold posn
  rw [List.filter_append, List.length_append]
  by_cases h : 0 < z <;> simp [h]
theorem cnt_le (zs : List Int) (l : Nat) : cnt zs l ≤ zs.length := List.length_filter_le _ _
theorem posn_le (zs : List Int) : posn zs ≤ zs.length := List.length_filter_le _ _
theorem cntI_lo (zs : List Int) (l : Nat) : 0 ≤ cntI zs l := by unfold cntI; split <;> omega
theorem cntI_hi (zs : List Int) (l : Nat) : cntI zs l ≤ zs.length := by
  unfold cntI
  have := cnt_le zs l
  split <;> omega
theorem take_snoc (zs : List Int) (k : Nat) (h : k < zs.length) : zs.take (k + 1) = zs.take k ++ [zs.getD k 0] := by
  rw [List.take_succ_eq_append_getElem h]
  simp [h]
theorem leftAt_bd (zs : List Int) (hz : zs.length ≤ 288) : ∀ l, l ≤ 15 → leftAt zs l ≤ 2 ^ l ∧ 288 - 288 * 2 ^ l ≤ leftAt zs l
  | 0, _ => by simp [leftAt]
  | l + 1, h => by
    obtain ⟨h1, h2⟩ := leftAt_bd zs hz l (by omega)
    have h3 := cntI_lo zs (l + 1)
    have h4 := cntI_hi zs (l + 1)
    have h5 : (2 : Int) ^ (l + 1) = 2 * 2 ^ l := by rw [Int.pow_succ]; omega
    have h6 : (1 : Int) ≤ 2 ^ l := by
      have : (0 : Int) < 2 ^ l := Int.pow_pos (by omega)
      omega
    simp only [leftAt]
    omega
theorem leftAt_bd' (zs : List Int) (hz : zs.length ≤ 288) (l : Nat) (hl : l ≤ 15) : leftAt zs l ≤ 32768 ∧ -9437184 ≤ leftAt zs l := by
  obtain ⟨h1, h2⟩ := leftAt_bd zs hz l hl
  have h3 : (2 : Int) ^ l ≤ 2 ^ 15 := by
    have : (2 : Nat) ^ l ≤ 2 ^ 15 := Nat.pow_le_pow_right (by omega) hl
    exact_mod_cast this
  have : (2 : Int) ^ 15 = 32768 := by decide
  omega
end Go.Proofs.YtfehgpjnlkgekaaGreatDoor
namespace Go.Proofs.YtfehgpjnlkgekaaGreatDoor
set_option linter.unusedVariables false

theorem cntI_nz {zs : List Int} {l : Nat} (h : l ≠ 0) : cntI zs l = cnt zs l := by unfold cntI; rw [if_neg h]
def kraft (zs : List Int) : Int := (zs.map fun z => if 0 < z then (2 : Int) ^ (15 - z).toNat else 0).sum
/-- Is the last length above nought a one? -/
def lastOne (zs : List Int) : Bool := zs.foldl (fun b z => if 0 < z then z == 1 else b) false
def makesOf (zs : List Int) : Bool :=
  decide (zs.length ≤ 288) && zs.all okLen && ((posn zs : Int) == 0 || (kraft zs == 32768 || ((posn zs : Int) == 1 && lastOne zs)))
theorem kraft_snoc (zs : List Int) (z : Int) : kraft (zs ++ [z]) = kraft zs + if 0 < z then (2 : Int) ^ (15 - z).toNat else 0 := by simp [kraft]
theorem lastOne_snoc (zs : List Int) (z : Int) : lastOne (zs ++ [z]) = if 0 < z then z == 1 else lastOne zs := by simp [lastOne]
theorem pow_bd (k : Nat) (h : k ≤ 15) : (1 : Int) ≤ 2 ^ k ∧ (2 : Int) ^ k ≤ 32768 := by
  have h1 : (0 : Int) < 2 ^ k := Int.pow_pos (by omega)
  have h2 : (2 : Nat) ^ k ≤ 2 ^ 15 := Nat.pow_le_pow_right (by omega) h
  have h3 : ((2 ^ k : Nat) : Int) ≤ 32768 := by omega
  exact ⟨by omega, by simpa using h3⟩
theorem kraft_bd : ∀ (zs : List Int), 0 ≤ kraft zs ∧ kraft zs ≤ 32768 * zs.length
  | [] => by simp [kraft]
  | z :: zs => by
    obtain ⟨h1, h2⟩ := kraft_bd zs
    simp only [kraft, List.map_cons, List.sum_cons, List.length_cons] at *
    split
    · have := pow_bd (15 - z).toNat (by omega)
      omega
    · omega
theorem leftAt_snoc (zs : List Int) (z : Int) (hz : 0 ≤ z) : ∀ l : Nat, leftAt (zs ++ [z]) l = leftAt zs l - if 0 < z ∧ z ≤ l then (2 : Int) ^ (l - z).toNat else 0
  | 0 => by
    simp only [leftAt]
    rw [if_neg (by omega)]; omega
  | l + 1 => by
    have ih := leftAt_snoc zs z hz l
    simp only [leftAt]
    rw [ih, cntI_nz (by omega), cntI_nz (by omega), cnt_snoc]
    by_cases h1 : 0 < z ∧ z ≤ l
    · have h2 : ¬ z = ((l + 1 : Nat) : Int) := by omega
      have h3 : 0 < z ∧ z ≤ ((l + 1 : Nat) : Int) := by omega
      rw [if_pos h1, if_neg h2, if_pos h3]
      rw [show (((l + 1 : Nat) : Int) - z).toNat = ((l : Int) - z).toNat + 1 from by omega, Int.pow_succ]
      omega
    · rw [if_neg h1]
      by_cases h2 : z = ((l + 1 : Nat) : Int)
      · have h3 : 0 < z ∧ z ≤ ((l + 1 : Nat) : Int) := by omega
        rw [if_pos h2, if_pos h3, h2]
        simp; omega
      · have h3 : ¬ (0 < z ∧ z ≤ ((l + 1 : Nat) : Int)) := by omega
        rw [if_neg h2, if_neg h3]; simp
theorem left_kraft (zs : List Int) (h : zs.all okLen = true) : leftAt zs 15 = 32768 - kraft zs := by
  have key : ∀ k, k ≤ zs.length → leftAt (zs.take k) 15 = 32768 - kraft (zs.take k) := by
    intro k
    induction k with
    | zero => intro _; simp [leftAt, kraft, cntI, cnt]
    | succ k ih =>
      intro hk
      have hok := List.all_eq_true.1 h (zs.getD k 0) (by simp [show k < zs.length by omega])
      simp only [okLen, Bool.and_eq_true, decide_eq_true_eq] at hok
      rw [take_snoc zs k (by omega), leftAt_snoc _ _ hok.1, kraft_snoc, ih (by omega)]
      by_cases h0 : 0 < zs.getD k 0
      · rw [if_pos (by omega), if_pos h0]; simp; omega
      · rw [if_neg (by omega), if_neg h0]; omega
  have := key zs.length (Nat.le_refl _)
  rwa [List.take_length] at this
theorem left_neg (zs : List Int) {l : Nat} (h : leftAt zs l < 0) : ∀ m, leftAt zs (l + m) < 0
  | 0 => h
  | m + 1 => by
    have ih := left_neg zs h m
    have hc := cntI_lo zs (l + m + 1)
    show 2 * leftAt zs (l + m) - cntI zs (l + m + 1) < 0
    omega
theorem lefts_of (zs : List Int) (h : 0 ≤ leftAt zs 15) : ∀ l, l ≤ 15 → leftsOk zs l = true
  | 0, _ => rfl
  | l + 1, hl => by
    simp only [leftsOk, Bool.and_eq_true, decide_eq_true_eq]
    refine ⟨lefts_of zs h l (by omega), ?_⟩
    rcases Int.lt_or_le (leftAt zs (l + 1)) 0 with hn | hn
    · have := left_neg zs hn (15 - (l + 1))
      rw [show l + 1 + (15 - (l + 1)) = 15 from by omega] at this
      omega
    · exact hn
theorem posn_zero {zs : List Int} (h : posn zs = 0) : kraft zs = 0 := by
  unfold kraft
  induction zs with
  | nil => rfl
  | cons z zs ih =>
    unfold posn at h
    by_cases hz : 0 < z
    · simp [hz] at h
    · simp only [List.filter_cons, hz, decide_false, Bool.false_eq_true, if_false] at h
      simp only [List.map_cons, List.sum_cons, hz, if_false]
      have := ih h
      omega
/-- One length above nought: it is a one just where one length is one; what it takes. -/
theorem posn_one (zs : List Int) : ∀ k, k ≤ zs.length →
    (posn (zs.take k) = 1 → (lastOne (zs.take k) = true ↔ cnt (zs.take k) 1 = 1) ∧ (lastOne (zs.take k) = true → kraft (zs.take k) = 16384)) ∧ (posn (zs.take k) = 0 → cnt (zs.take k) 1 = 0 ∧ kraft (zs.take k) = 0) := by
  intro k
  induction k with
  | zero => intro _; simp [posn, cnt, kraft]
  | succ k ih =>
    intro hk
    obtain ⟨i1, i2⟩ := ih (by omega)
    rw [take_snoc zs k (by omega), posn_snoc, cnt_snoc, kraft_snoc, lastOne_snoc]
    generalize zs.getD k 0 = z at *
    by_cases hz : 0 < z
    · simp only [hz, if_true]
      refine ⟨fun h => ?_, fun h => absurd h (by omega)⟩
      obtain ⟨j1, j2⟩ := i2 (by omega)
      rw [j1, j2]
      by_cases h1 : z = 1
      · subst h1; simp
      · have : ¬ z = ((1 : Nat) : Int) := by omega
        simp [h1]
    · have h1 : ¬ z = ((1 : Nat) : Int) := by omega
      simp only [hz, if_false, h1, Nat.add_zero, Int.add_zero]
      exact ⟨i1, i2⟩
theorem makes_counts (zs : List Int) : makesOf zs = countsOk zs := by
  unfold makesOf countsOk
  cases h1 : decide (zs.length ≤ 288) with
  | false => simp
  | true =>
    cases h2 : zs.all okLen with
    | false => simp
    | true =>
      have hl := left_kraft zs h2
      have hp := posn_one zs zs.length (Nat.le_refl _)
      rw [List.take_length] at hp
      simp only [Bool.true_and]
      rw [hl, cntI_nz (by omega)]
      by_cases h0 : posn zs = 0
      · have hk := (hp.2 h0).2
        have := lefts_of zs (by omega) 15 (Nat.le_refl _)
        simp [h0, this]
      · have e0 : ((posn zs : Int) == 0) = false := by simp; omega
        by_cases hk : kraft zs = 32768
        · have := lefts_of zs (by omega) 15 (Nat.le_refl _)
          simp [hk, this]
        · have ek : (kraft zs == 32768) = false := by simpa using hk
          have ek2 : (32768 - kraft zs == 0) = false := by simp; omega
          by_cases h3 : posn zs = 1
          · have e1 : ((posn zs : Int) == 1) = true := by simp; omega
            obtain ⟨q1, q2⟩ := hp.1 h3
            cases hb : lastOne zs with
            | true =>
              have hc := q1.1 hb
              have hkk := q2 hb
              have := lefts_of zs (by omega) 15 (Nat.le_refl _)
              simp [e0, ek, ek2, e1, hc, this]
            | false =>
              have hc : ((cnt zs 1 : Int) == 1) = false := by
                cases hh : ((cnt zs 1 : Int) == 1) with
                | false => rfl
                | true =>
                  have : cnt zs 1 = 1 := by simp at hh; omega
                  have := q1.2 this
                  rw [hb] at this; cases this
              simp [e0, ek, ek2, hc]
          · have e1 : ((posn zs : Int) == 1) = false := by simp; omega
            simp [e0, ek, ek2, e1]
end Go.Proofs.YtfehgpjnlkgekaaGreatDoor
