/-
  The least cost, by weights alone: rows of weights that are merged.
-/
import Derived.Test.YtacidmamfkfipaaLenOk
namespace Go.Proofs.Ytacidmamfkfipaa
set_option linter.unusedVariables false

def ws (l : List AP) : List Int := l.map (·.1)
/-- Each two of a row of weights as one. -/
def pw : List Int → List Int
  | a :: b :: r => (a + b) :: pw r
  | _ => []
theorem pw_ws : ∀ (l : List AP), ws (pairsOf l) = pw (ws l)
  | [] => rfl
  | [_] => rfl
  | a :: b :: r => by
    have := pw_ws r
    simp only [ws] at *
    simp [pairsOf, pw, this]
theorem pw_snoc : ∀ (l : List Int) (a b : Int) (k : Nat), l.length = 2 * k → pw (l ++ [a, b]) = pw l ++ [a + b]
  | [], a, b, _, _ => rfl
  | [_], _, _, k, h => by simp at h; omega
  | x :: y :: r, a, b, k, h => by
    have := pw_snoc r a b (k - 1) (by simp at h; omega)
    simp [pw, this]
theorem pw_odd : ∀ (l : List Int) (a : Int) (k : Nat), l.length = 2 * k → pw (l ++ [a]) = pw l
  | [], a, _, _ => rfl
  | [_], _, k, h => by simp at h; omega
  | x :: y :: r, a, k, h => by
    have := pw_odd r a (k - 1) (by simp at h; omega)
    simp [pw, this]
theorem pw_len : ∀ (l : List Int), (pw l).length = l.length / 2
  | [] => rfl
  | [_] => by simp [pw]
  | x :: y :: r => by simp [pw, pw_len r]; omega
/-- Two rows of weights, merged. -/
def mw : List Int → List Int → List Int
  | [], v => v
  | x :: u, [] => x :: u
  | x :: u, y :: v => if x ≤ y then x :: mw u (y :: v) else y :: mw (x :: u) v
termination_by u v => u.length + v.length
theorem mw_nil (u : List Int) : mw u [] = u := by cases u <;> simp [mw]
theorem mw_ws : ∀ (u v : List AP), ws (mrg u v) = mw (ws u) (ws v)
  | [], v => by simp [mrg, mw, ws]
  | x :: u, [] => by simp [mrg, mw, ws]
  | x :: u, y :: v => by
    have h1 := mw_ws u (y :: v)
    have h2 := mw_ws (x :: u) v
    simp only [ws, List.map_cons] at *
    rw [mrg, mw]
    split <;> simp [h1, h2]
termination_by u v => u.length + v.length
theorem mw_len : ∀ (u v : List Int), (mw u v).length = u.length + v.length
  | [], v => by simp [mw]
  | x :: u, [] => by simp [mw]
  | x :: u, y :: v => by
    have h1 := mw_len u (y :: v)
    have h2 := mw_len (x :: u) v
    rw [mw]
    split
    · simp [h1]; omega
    · simp [h2]; omega
termination_by u v => u.length + v.length
/-- So many rows, merged. -/
def rowW (w : List Int) : Nat → List Int
  | 0 => []
  | k + 1 => mw w (pw (rowW w k))
theorem rowW_ws {one : List AP} (h : Srt one) : ∀ k, ws (rowAt one k) = rowW (ws one) (k + 1)
  | 0 => by simp [rowAt, rowW, pw, mw_nil]
  | k + 1 => by
    have ih := rowW_ws h k
    rw [rowW, ← ih, ← pw_ws, ← mw_ws]
    rw [show rowAt one (k + 1) = stSort (one ++ pairsOf (rowAt one k)) from rfl, stSort_mrg h (pairs_srt _ (row_srt h k))]
def lightW (l : List Int) : List Int := ws (stSort (onesOf l))
theorem lightW_len (l : List Int) : (lightW l).length = (onesOf l).length := by simp [lightW, ws, stSort_len]
theorem least_rows (l : List Int) (ms : Nat) (h : 1 ≤ ms) : leastOf l ms = if (lightW l).length < 2 then (lightW l).sum else ((rowW (lightW l) ms).take (2 * (lightW l).length - 2)).sum := by
  unfold leastOf
  rw [lightW_len]
  split
  · unfold lightW wsum ws
    exact perm_sum ((stSort_steq _).1.map _)
  · obtain ⟨k, rfl⟩ : ∃ k, ms = k + 1 := ⟨ms - 1, by omega⟩
    unfold lightW
    rw [← rowW_ws (stSort_srt _), Nat.add_sub_cancel]
    unfold wsum ws
    rw [List.map_take]
/-- A weight laid into a row at place k, behind those that are not above it. -/
theorem ins_at : ∀ (T : List AP) (e : AP) (k : Nat), k ≤ T.length → Srt T → (∀ z ∈ (ws T).drop k, e.1 < z) → (k = 0 ∨ (ws T).getD (k - 1) 0 ≤ e.1) → ws (insR T e) = (ws T).take k ++ e.1 :: (ws T).drop k
  | [], e, k, hk, _, _, _ => by
    obtain rfl : k = 0 := by simpa using hk
    simp [insR, ws]
  | q :: T, e, k, hk, hs, hgt, hle => by
    have hs' := List.pairwise_cons.1 hs
    simp only [ws, List.map_cons] at *
    unfold insR
    rcases Nat.eq_zero_or_pos k with rfl | hpos
    · rw [if_pos (by simpa using hgt q.1 (by simp))]
      simp
    · obtain ⟨j, rfl⟩ : ∃ j, k = j + 1 := ⟨k - 1, by omega⟩
      have hq : ¬ e.1 < q.1 := by
        rcases hle with h | h
        · omega
        · rw [Nat.add_sub_cancel] at h
          rcases Nat.eq_zero_or_pos j with rfl | hj
          · simp at h; omega
          · have hj' : j - 1 < T.length := by simp at hk; omega
            have h1 := hs'.1 (T[j - 1]) (List.getElem_mem hj')
            obtain ⟨i, rfl⟩ : ∃ i, j = i + 1 := ⟨j - 1, by omega⟩
            simp only [Nat.add_sub_cancel] at hj' h1
            rw [List.getD_cons_succ] at h
            simp [hj'] at h
            omega
      rw [if_neg hq]
      have := ins_at T e j (by simpa using hk) hs'.2 (by simpa [ws] using hgt) (by
        rcases Nat.eq_zero_or_pos j with rfl | hj
        · exact .inl rfl
        · rcases hle with h | h
          · omega
          · right
            rw [Nat.add_sub_cancel, show j = (j - 1) + 1 from by omega, List.getD_cons_succ] at h
            exact h)
      simp only [ws] at this
      simp [this]
theorem light_snoc (l : List Int) (f : Int) (k : Nat) (hf : 0 < f) (hk : k ≤ (lightW l).length) (h1 : ∀ z ∈ (lightW l).drop k, f < z) (h2 : k = 0 ∨ (lightW l).getD (k - 1) 0 ≤ f) :
    lightW (l ++ [f]) = (lightW l).take k ++ f :: (lightW l).drop k := by
  unfold lightW at *
  rw [onesOf_snoc, if_pos hf]
  have e : stSort (onesOf l ++ [(f, [(l.length : Int)])]) = insR (stSort (onesOf l)) (f, [(l.length : Int)]) := by simp [stSort]
  rw [e]
  exact ins_at _ _ k (by simpa [ws] using hk) (stSort_srt _) h1 h2
theorem light_pass (l : List Int) (f : Int) (hf : ¬ 0 < f) : lightW (l ++ [f]) = lightW l := by
  unfold lightW
  rw [onesOf_snoc, if_neg hf, List.append_nil]
theorem light_bd {l : List Int} (h : l.all fairF = true) : ∀ z ∈ lightW l, 0 ≤ z ∧ z ≤ 1048576 := by
  intro z hz
  obtain ⟨p, hp, rfl⟩ := List.mem_map.1 hz
  obtain ⟨h1, h2, h3, h4⟩ := ones_facts l h
  have hp' := ((stSort_steq _).mem p).2 hp
  exact ⟨h1 p hp', (h3 p hp').1⟩
theorem rowW_bd {l : List Int} (h : l.all fairF = true) (hl : l.length ≤ 288) {k : Nat} (hk : k ≤ 16) : ∀ z ∈ rowW (lightW l) k, 0 ≤ z ∧ z ≤ 1000000000000 := by
  intro z hz
  cases k with
  | zero => simp [rowW] at hz
  | succ k =>
    unfold lightW at hz
    rw [← rowW_ws (stSort_srt _)] at hz
    obtain ⟨p, hp, rfl⟩ := List.mem_map.1 hz
    have := row_fair l h hl k (by omega) p hp
    exact ⟨this.1, this.2.1⟩
theorem rowW_len {l : List Int} (hl : (lightW l).length ≤ 288) : ∀ k, (rowW (lightW l) k).length ≤ 576
  | 0 => by simp [rowW]
  | k + 1 => by
    have := rowW_len hl k
    simp only [rowW, mw_len, pw_len]; omega
theorem rowW_enough {l : List Int} {ms : Nat} (h : (lightW l).length ≤ 2 ^ ms) (h1 : 1 ≤ ms) (h2 : 2 ≤ (lightW l).length) : 2 * (lightW l).length - 2 ≤ (rowW (lightW l) ms).length := by
  obtain ⟨k, rfl⟩ : ∃ k, ms = k + 1 := ⟨ms - 1, by omega⟩
  have e := rowW_ws (stSort_srt (onesOf l)) k
  have h3 := rowAt_last (stSort (onesOf l)) (k + 1) (by rw [stSort_len, ← lightW_len]; exact h) k (by omega)
  rw [show k + 1 - k = 1 from by omega, stSort_len, ← lightW_len] at h3
  have h4 : (rowW (lightW l) (k + 1)).length = (rowAt (stSort (onesOf l)) k).length := by
    unfold lightW
    rw [← e]; simp [ws]
  omega
/-- Where a merge stands. -/
theorem mw_left {u v : List Int} {a b : Nat} (ha : a < u.length) (h : v.length ≤ b ∨ u.getD a 0 ≤ v.getD b 0) : mw (u.drop a) (v.drop b) = u.getD a 0 :: mw (u.drop (a + 1)) (v.drop b) := by
  have e : u.drop a = u.getD a 0 :: u.drop (a + 1) := by
    rw [List.drop_eq_getElem_cons ha]; simp [ha]
  rw [e]
  rcases Nat.lt_or_ge b v.length with hb | hb
  · have e2 : v.drop b = v.getD b 0 :: v.drop (b + 1) := by
      rw [List.drop_eq_getElem_cons hb]; simp [hb]
    rw [e2, mw, if_pos (by rcases h with h | h <;> omega)]
  · rw [List.drop_of_length_le hb, mw, mw_nil]
theorem mw_right {u v : List Int} {a b : Nat} (hb : b < v.length) (h : u.length ≤ a ∨ ¬ u.getD a 0 ≤ v.getD b 0) : mw (u.drop a) (v.drop b) = v.getD b 0 :: mw (u.drop a) (v.drop (b + 1)) := by
  have e2 : v.drop b = v.getD b 0 :: v.drop (b + 1) := by
    rw [List.drop_eq_getElem_cons hb]; simp [hb]
  rw [e2]
  rcases Nat.lt_or_ge a u.length with ha | ha
  · have e : u.drop a = u.getD a 0 :: u.drop (a + 1) := by
      rw [List.drop_eq_getElem_cons ha]; simp [ha]
    rw [e, mw, if_neg (by rcases h with h | h; omega; exact h)]
  · rw [List.drop_of_length_le ha, mw, mw]
end Go.Proofs.Ytacidmamfkfipaa
