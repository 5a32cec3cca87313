/-
  Plain words on code lengths: how many there are of each, what is left, the first codes.
-/
namespace Go.Proofs.YtacidmamfkfipaaDoor

/-- How many of the lengths are l. -/
def cnt (zs : List Int) (l : Nat) : Nat := (zs.filter (fun z => z == (l : Int))).length
/-- The row that 'counts' makes: place 0 stays 0. -/
def cntI (zs : List Int) (l : Nat) : Int := if l = 0 then 0 else (cnt zs l : Int)
def posn (zs : List Int) : Nat := (zs.filter (fun z => decide (0 < z))).length
def okLen (z : Int) : Bool := decide (0 ≤ z) && decide (z ≤ 15)
/-- What is left of the codes of l bits. -/
def leftAt (zs : List Int) : Nat → Int
  | 0 => 1
  | l + 1 => 2 * leftAt zs l - cntI zs (l + 1)
def leftsOk (zs : List Int) : Nat → Bool
  | 0 => true
  | l + 1 => leftsOk zs l && decide (0 ≤ leftAt zs (l + 1))
def countsOk (zs : List Int) : Bool :=
  decide (zs.length ≤ 288) && zs.all okLen && leftsOk zs 15 && (leftAt zs 15 == 0 || ((posn zs : Int) == 0 || ((posn zs : Int) == 1 && cntI zs 1 == 1)))
/-- The first code of length l. -/
def firstAt (zs : List Int) : Nat → Int
  | 0 => 0
  | l + 1 => 2 * (firstAt zs l + cntI zs l)

theorem cnt_snoc (zs : List Int) (z : Int) (l : Nat) : cnt (zs ++ [z]) l = cnt zs l + if z = (l : Int) then 1 else 0 := by
  unfold cnt
  rw [List.filter_append, List.length_append]
  by_cases h : z = (l : Int) <;> simp [h]
theorem posn_snoc (zs : List Int) (z : Int) : posn (zs ++ [z]) = posn zs + if 0 < z then 1 else 0 := by
  unfold posn
  rw [List.filter_append, List.length_append]
  by_cases h : 0 < z <;> simp [h]
theorem cnt_le (zs : List Int) (l : Nat) : cnt zs l ≤ zs.length := List.length_filter_le _ _
theorem posn_le (zs : List Int) : posn zs ≤ zs.length := List.length_filter_le _ _
theorem cntI_lo (zs : List Int) (l : Nat) : 0 ≤ cntI zs l := by unfold cntI; split <;> omega
theorem cntI_hi (zs : List Int) (l : Nat) : cntI zs l ≤ zs.length := by
  unfold cntI
  have := cnt_le zs l
  split <;> omega
theorem take_snoc (zs : List Int) (k : Nat) (h : k < zs.length) : zs.take (k + 1) = zs.take k ++ [zs.getD k 0] := by
  rw [List.take_succ_eq_append_getElem h]
  simp [h]
theorem leftAt_bd (zs : List Int) (hz : zs.length ≤ 288) : ∀ l, l ≤ 15 → leftAt zs l ≤ 2 ^ l ∧ 288 - 288 * 2 ^ l ≤ leftAt zs l
  | 0, _ => by simp [leftAt]
  | l + 1, h => by
    obtain ⟨h1, h2⟩ := leftAt_bd zs hz l (by omega)
    have h3 := cntI_lo zs (l + 1)
    have h4 := cntI_hi zs (l + 1)
    have h5 : (2 : Int) ^ (l + 1) = 2 * 2 ^ l := by rw [Int.pow_succ]; omega
    have h6 : (1 : Int) ≤ 2 ^ l := by
      have : (0 : Int) < 2 ^ l := Int.pow_pos (by omega)
      omega
    simp only [leftAt]
    omega
theorem leftAt_bd' (zs : List Int) (hz : zs.length ≤ 288) (l : Nat) (hl : l ≤ 15) : leftAt zs l ≤ 32768 ∧ -9437184 ≤ leftAt zs l := by
  obtain ⟨h1, h2⟩ := leftAt_bd zs hz l hl
  have h3 : (2 : Int) ^ l ≤ 2 ^ 15 := by
    have : (2 : Nat) ^ l ≤ 2 ^ 15 := Nat.pow_le_pow_right (by omega) hl
    exact_mod_cast this
  have : (2 : Int) ^ 15 = 32768 := by decide
  omega
end Go.Proofs.YtacidmamfkfipaaDoor
