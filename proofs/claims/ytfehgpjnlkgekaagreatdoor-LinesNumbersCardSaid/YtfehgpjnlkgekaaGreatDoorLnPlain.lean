/-
  lines, plain: numbers as words; the words of a line.
-/
import Derived.Lib.Split
import Derived.Lib.ItoaNum
import Derived.Lib.AtoiAllCases
namespace Go.Proofs.YtfehgpjnlkgekaaGreatDoor
open Go.Lib
set_option linter.unusedVariables false

/-! ### Digits -/
theorem dd_small {u : Nat} (h : u < 10) : decDigits u = [UInt8.ofNat (48 + u)] := by rw [decDigits, dif_pos h]
theorem dd_big {u : Nat} (h : ¬ u < 10) : decDigits u = decDigits (u / 10) ++ [UInt8.ofNat (48 + u % 10)] := by rw [decDigits, dif_neg h]
theorem u8_digit {d : Nat} (h : d < 10) : (UInt8.ofNat (48 + d)).toNat = 48 + d := by
  rw [UInt8.toNat_ofNat']; omega
theorem u8_back (c : UInt8) : UInt8.ofNat c.toNat = c := UInt8.ofNat_toNat
def Dig (c : UInt8) : Prop := 48 ≤ c.toNat ∧ c.toNat ≤ 57
def val (a : Nat) (l : List UInt8) : Nat := l.foldl (fun a c => 10 * a + (c.toNat - 48)) a
theorem val_snoc (a : Nat) (l : List UInt8) (c : UInt8) : val a (l ++ [c]) = 10 * val a l + (c.toNat - 48) := by simp [val]
theorem val_ge : ∀ (l : List UInt8) (a : Nat), a ≤ val a l
  | [], a => Nat.le_refl _
  | c :: l, a => by
    have := val_ge l (10 * a + (c.toNat - 48))
    show a ≤ val (10 * a + (c.toNat - 48)) l
    omega
theorem dd_facts : ∀ (n u : Nat), u ≤ n → decDigits u ≠ [] ∧ (∀ c ∈ decDigits u, Dig c) ∧ val 0 (decDigits u) = u ∧ (u ≠ 0 → ∃ c r, decDigits u = c :: r ∧ 49 ≤ c.toNat)
  | n, u, hu => by
    by_cases h : u < 10
    · rw [dd_small h]
      refine ⟨by simp, fun c hc => ?_, ?_, fun h0 => ⟨_, _, rfl, by rw [u8_digit h]; omega⟩⟩
      · rw [List.mem_singleton] at hc
        subst hc
        unfold Dig
        rw [u8_digit h]; omega
      · simp only [val, List.foldl_cons, List.foldl_nil]
        rw [u8_digit h]; omega
    · match n, hu with
      | 0, hu => omega
      | n + 1, hu =>
        obtain ⟨h1, h2, h3, h4⟩ := dd_facts n (u / 10) (by omega)
        have hd : u % 10 < 10 := Nat.mod_lt _ (by omega)
        rw [dd_big h]
        refine ⟨by simp, fun c hc => ?_, ?_, fun _ => ?_⟩
        · rcases List.mem_append.1 hc with hc | hc
          · exact h2 c hc
          · rw [List.mem_singleton] at hc
            subst hc
            unfold Dig
            rw [u8_digit hd]; omega
        · rw [val_snoc, h3, u8_digit hd]; omega
        · obtain ⟨c, r, e, hc⟩ := h4 (by omega)
          exact ⟨c, r ++ [UInt8.ofNat (48 + u % 10)], by rw [e]; rfl, hc⟩
theorem dd_ne (u : Nat) : decDigits u ≠ [] := (dd_facts u u (Nat.le_refl _)).1
theorem dd_dig (u : Nat) : ∀ c ∈ decDigits u, Dig c := (dd_facts u u (Nat.le_refl _)).2.1
theorem dd_val (u : Nat) : val 0 (decDigits u) = u := (dd_facts u u (Nat.le_refl _)).2.2.1
theorem dd_head {u : Nat} (h : u ≠ 0) : ∃ c r, decDigits u = c :: r ∧ 49 ≤ c.toNat := (dd_facts u u (Nat.le_refl _)).2.2.2 h
theorem snoc_ind {l : List UInt8} (h : l ≠ []) : ∃ r c, l = r ++ [c] := ⟨l.dropLast, l.getLast h, (List.dropLast_concat_getLast h).symm⟩
/-- Digits that begin with no nought (but the nought alone) are those of their number. -/
theorem val_dd : ∀ (n : Nat) (l : List UInt8), l.length ≤ n → l ≠ [] → (∀ c ∈ l, Dig c) → (∀ c r, l = c :: r → c.toNat = 48 → r = []) → decDigits (val 0 l) = l
  | 0, l, hl, hne, _, _ => absurd (List.eq_nil_of_length_eq_zero (by omega)) hne
  | n + 1, l, hl, hne, hd, hz => by
    obtain ⟨r, c, rfl⟩ := snoc_ind hne
    have hc : Dig c := hd c (by simp)
    unfold Dig at hc
    by_cases hr : r = []
    · subst hr
      have e : val 0 ([] ++ [c]) = c.toNat - 48 := by rw [val_snoc]; simp [val]
      rw [e, dd_small (by omega), show 48 + (c.toNat - 48) = c.toNat by omega, u8_back]; rfl
    · obtain ⟨a, q, rfl⟩ := List.exists_cons_of_ne_nil hr
      have ha : Dig a := hd a (by simp)
      unfold Dig at ha
      have ha49 : 49 ≤ a.toNat := by
        rcases Nat.lt_or_ge 48 a.toNat with h | h
        · exact h
        · have := hz a (q ++ [c]) (by simp) (by omega)
          simp at this
      have ih := val_dd n (a :: q) (by simp at hl ⊢; omega) (by simp) (fun x hx => hd x (by simp at hx ⊢; rcases hx with h | h; exact .inl h; exact .inr (.inl h))) (fun x y hxy h48 => by
        simp only [List.cons.injEq] at hxy
        obtain ⟨rfl, rfl⟩ := hxy
        omega)
      have hv : 1 ≤ val 0 (a :: q) := by
        have := val_ge q (10 * 0 + (a.toNat - 48))
        show 1 ≤ val (10 * 0 + (a.toNat - 48)) q
        omega
      rw [val_snoc, dd_big (by omega), show (10 * val 0 (a :: q) + (c.toNat - 48)) / 10 = val 0 (a :: q) by omega, ih, show (10 * val 0 (a :: q) + (c.toNat - 48)) % 10 = c.toNat - 48 by omega, show 48 + (c.toNat - 48) = c.toNat by omega, u8_back]
theorem parse_dig : ∀ (l : List UInt8) (a : Nat), (∀ c ∈ l, Dig c) → val a l < 18446744073709551616 → parseUint10 a l = .ok (val a l)
  | [], a, _, _ => rfl
  | c :: l, a, hd, hv => by
    have hc : Dig c := hd c (by simp)
    unfold Dig at hc
    have h1 : val a (c :: l) = val (10 * a + (c.toNat - 48)) l := rfl
    have h2 := val_ge l (10 * a + (c.toNat - 48))
    rw [h1] at hv ⊢
    rw [parseUint10, if_pos hc, if_neg (by omega), if_neg (by omega), show a * 10 + (c.toNat - 48) = 10 * a + (c.toNat - 48) by omega]
    exact parse_dig l _ (fun x hx => hd x (by simp [hx])) hv
theorem mag_dd {u : Nat} (h : u < 18446744073709551616) : parseMag (decDigits u) = .ok u := by
  unfold parseMag
  rw [if_neg (dd_ne u), parse_dig _ _ (dd_dig u) (by rw [dd_val]; exact h), dd_val]
def i64b (v : Int) : Prop := -9223372036854775808 ≤ v ∧ v ≤ 9223372036854775807
theorem atoi_itoa {v : Int} (h : i64b v) : atoiAll (itoa v) = .ok v := by
  unfold i64b at h
  unfold itoa
  by_cases hv : v < 0
  · rw [if_pos hv]
    unfold atoiAll
    simp only
    rw [if_pos (.inr rfl), mag_dd (by omega)]
    simp only
    rw [if_neg (by simp), if_neg (by omega), if_pos (show UInt8.toNat 45 = 45 from rfl)]
    congr 1
    omega
  · rw [if_neg hv]
    obtain ⟨c, r, e⟩ := List.exists_cons_of_ne_nil (dd_ne v.toNat)
    have hc : Dig c := dd_dig v.toNat c (by rw [e]; simp)
    unfold Dig at hc
    unfold atoiAll
    rw [e]
    simp only
    rw [if_neg (by omega), ← e, mag_dd (by omega)]
    simp only
    rw [if_neg (by omega), if_neg (by omega), if_neg (by omega)]
    congr 1
    omega
/-- A number, as lines reads it. -/
def numL (s : List UInt8) : Option Int := match atoiAll s with
  | .ok v => if itoa v = s then some v else none
  | _ => none
theorem num_iff {s : List UInt8} {v : Int} : numL s = some v ↔ s = itoa v ∧ i64b v := by
  unfold numL
  constructor
  · intro h
    split at h
    · rename_i u hu
      split at h
      · rename_i hs
        injection h with h
        subst h
        exact ⟨hs.symm, atoiAll_bounds hu⟩
      · cases h
    · cases h
  · rintro ⟨rfl, hb⟩
    rw [atoi_itoa hb]
    simp
/-! ### The document's number -/
def goR : Int → List UInt8 → Option Int
  | n, [] => some n
  | n, c :: r => if 48 ≤ c.toNat ∧ c.toNat ≤ 57 ∧ ¬ n < Int.tdiv (-9223372036854775808 + ((c.toNat : Int) - 48)) 10 then goR (10 * n - ((c.toNat : Int) - 48)) r else none
def refNum (s : List UInt8) : Option Int :=
  let d := if s.head? = some 45 then s.tail else s
  if d = [] ∨ (d.head? = some 48 ∧ (1 < d.length ∨ 1 < s.length)) then none else
  match goR 0 d with
  | none => none
  | some n => if d.length < s.length then some n else if -9223372036854775808 < n then some (-n) else none
theorem goR_iff : ∀ (l : List UInt8) (a : Nat) (m : Int), a ≤ 9223372036854775808 → (goR (-(a : Int)) l = some m ↔ (∀ c ∈ l, Dig c) ∧ m = -(val a l : Int) ∧ val a l ≤ 9223372036854775808)
  | [], a, m, ha => by
    simp only [goR, val, List.foldl_nil, Option.some.injEq]
    constructor
    · rintro rfl; exact ⟨fun c hc => by simp at hc, rfl, ha⟩
    · rintro ⟨_, rfl, _⟩; rfl
  | c :: l, a, m, ha => by
    rw [goR]
    have hv : val a (c :: l) = val (10 * a + (c.toNat - 48)) l := rfl
    have hge := val_ge l (10 * a + (c.toNat - 48))
    by_cases hc : 48 ≤ c.toNat ∧ c.toNat ≤ 57
    · have ht : Int.tdiv (-9223372036854775808 + ((c.toNat : Int) - 48)) 10 = -((9223372036854775808 - ((c.toNat : Int) - 48)) / 10) := by
        rw [show (-9223372036854775808 : Int) + ((c.toNat : Int) - 48) = -(9223372036854775808 - ((c.toNat : Int) - 48)) by omega, Int.neg_tdiv, Int.tdiv_eq_ediv_of_nonneg (by omega)]
      rw [ht]
      by_cases hb : 10 * a + (c.toNat - 48) ≤ 9223372036854775808
      · rw [if_pos (by omega), show (10 : Int) * -(a : Int) - ((c.toNat : Int) - 48) = -((10 * a + (c.toNat - 48) : Nat) : Int) by omega, goR_iff l _ m hb, hv]
        constructor
        · rintro ⟨h1, h2, h3⟩
          exact ⟨fun x hx => by rcases List.mem_cons.1 hx with rfl | hx; exact hc; exact h1 x hx, h2, h3⟩
        · rintro ⟨h1, h2, h3⟩
          exact ⟨fun x hx => h1 x (by simp [hx]), h2, h3⟩
      · rw [if_neg (by omega)]
        constructor
        · intro h; cases h
        · rintro ⟨_, _, h3⟩; omega
    · rw [if_neg (fun h => hc ⟨h.1, h.2.1⟩)]
      constructor
      · intro h; cases h
      · rintro ⟨h1, _, _⟩; exact absurd (h1 c (by simp)) hc
theorem head_u8 {l : List UInt8} {n : UInt8} : l.head? = some n ↔ ∃ r, l = n :: r := by
  cases l with
  | nil => simp
  | cons c r => simp
theorem val_pos {c : UInt8} {r : List UInt8} (h : 49 ≤ c.toNat) : 1 ≤ val 0 (c :: r) := by
  have := val_ge r (10 * 0 + (c.toNat - 48))
  show 1 ≤ val (10 * 0 + (c.toNat - 48)) r
  omega
theorem u8_of_nat {c : UInt8} {n : Nat} (h : c.toNat = n) : c = UInt8.ofNat n := by rw [← h, u8_back]
theorem ref_iff {s : List UInt8} {v : Int} : refNum s = some v ↔ s = itoa v ∧ i64b v := by
  have z : (0 : Int) = -((0 : Nat) : Int) := rfl
  unfold refNum
  by_cases hm : s.head? = some 45
  · obtain ⟨d, rfl⟩ := head_u8.1 hm
    simp only [hm, if_true, List.tail_cons, List.length_cons]
    by_cases hbad : d = [] ∨ (d.head? = some 48 ∧ (1 < d.length ∨ 1 < d.length + 1))
    · rw [if_pos hbad]
      constructor
      · intro h; cases h
      · rintro ⟨h, hb⟩
        exfalso
        unfold itoa at h
        by_cases hv : v < 0
        · rw [if_pos hv] at h
          injection h with _ h
          obtain ⟨c, r, e, hc⟩ := dd_head (u := v.natAbs) (by omega)
          rw [h, e] at hbad
          rcases hbad with h0 | ⟨h0, _⟩
          · cases h0
          · simp only [List.head?_cons, Option.some.injEq] at h0
            subst h0
            simp at hc
        · rw [if_neg hv] at h
          have := dd_dig v.toNat 45 (by rw [← h]; simp)
          unfold Dig at this
          simp at this
    · rw [if_neg hbad]
      have hne : d ≠ [] := fun h => hbad (.inl h)
      obtain ⟨c, r, rfl⟩ := List.exists_cons_of_ne_nil hne
      have h48 : c.toNat ≠ 48 := fun h => hbad (.inr ⟨by rw [u8_of_nat h]; rfl, .inr (by simp)⟩)
      cases hg : goR 0 (c :: r) with
      | none =>
        simp only
        constructor
        · intro h; cases h
        · rintro ⟨h, hb⟩
          exfalso
          unfold itoa at h
          by_cases hv : v < 0
          · rw [if_pos hv] at h
            injection h with _ h
            unfold i64b at hb
            have h2 := (goR_iff (c :: r) 0 (-(v.natAbs : Int)) (by omega)).2 ⟨by rw [h]; exact dd_dig _, by rw [h, dd_val], by rw [h, dd_val]; omega⟩
            rw [← z, hg] at h2
            cases h2
          · rw [if_neg hv] at h
            have := dd_dig v.toNat 45 (by rw [← h]; simp)
            unfold Dig at this
            simp at this
      | some n =>
        simp only
        rw [if_pos (by omega)]
        have hg' := hg
        rw [z] at hg'
        obtain ⟨h1, h2, h3⟩ := (goR_iff (c :: r) 0 n (by omega)).1 hg'
        have hc := h1 c (by simp)
        unfold Dig at hc
        have hp := val_pos (c := c) (r := r) (by omega)
        have hdd := val_dd _ (c :: r) (Nat.le_refl _) (by simp) h1 (fun x y hxy hx => by
          simp only [List.cons.injEq] at hxy
          obtain ⟨rfl, rfl⟩ := hxy
          omega)
        constructor
        · intro h
          injection h with h
          subst h
          refine ⟨?_, by unfold i64b; omega⟩
          unfold itoa
          rw [if_pos (by omega), h2, show (-(val 0 (c :: r) : Int)).natAbs = val 0 (c :: r) by omega, hdd]
        · rintro ⟨h, hb⟩
          unfold itoa at h
          by_cases hv : v < 0
          · rw [if_pos hv] at h
            injection h with _ h
            have e : val 0 (c :: r) = v.natAbs := by rw [h, dd_val]
            congr 1
            omega
          · rw [if_neg hv] at h
            have := dd_dig v.toNat 45 (by rw [← h]; simp)
            unfold Dig at this
            simp at this
  · simp only [hm, if_false]
    by_cases hbad : s = [] ∨ (s.head? = some 48 ∧ (1 < s.length ∨ 1 < s.length))
    · rw [if_pos hbad]
      constructor
      · intro h; cases h
      · rintro ⟨h, hb⟩
        exfalso
        unfold itoa at h
        by_cases hv : v < 0
        · rw [if_pos hv] at h
          exact hm (by rw [h]; rfl)
        · rw [if_neg hv] at h
          rcases hbad with h0 | ⟨h0, h1⟩
          · exact dd_ne v.toNat (h.symm.trans h0)
          · by_cases hz : v.toNat = 0
            · rw [hz, dd_small (by omega)] at h
              subst h
              simp at h1
            · obtain ⟨c, r, e, hc⟩ := dd_head hz
              rw [h, e] at h0
              simp only [List.head?_cons, Option.some.injEq] at h0
              subst h0
              simp at hc
    · rw [if_neg hbad]
      have hne : s ≠ [] := fun h => hbad (.inl h)
      have hcan : ∀ c r, s = c :: r → c.toNat = 48 → r = [] := fun c r e h48 => by
        subst e
        cases r with
        | nil => rfl
        | cons a q => exact absurd (.inr ⟨by rw [u8_of_nat h48]; rfl, .inl (by simp)⟩) hbad
      cases hg : goR 0 s with
      | none =>
        simp only
        constructor
        · intro h; cases h
        · rintro ⟨h, hb⟩
          exfalso
          unfold itoa at h
          by_cases hv : v < 0
          · rw [if_pos hv] at h
            exact hm (by rw [h]; rfl)
          · rw [if_neg hv] at h
            unfold i64b at hb
            have h2 := (goR_iff s 0 (-(v.toNat : Int)) (by omega)).2 ⟨by rw [h]; exact dd_dig _, by rw [h, dd_val], by rw [h, dd_val]; omega⟩
            rw [← z, hg] at h2
            cases h2
      | some n =>
        simp only
        rw [if_neg (by omega)]
        have hg' := hg
        rw [z] at hg'
        obtain ⟨h1, h2, h3⟩ := (goR_iff s 0 n (by omega)).1 hg'
        have hdd := val_dd _ s (Nat.le_refl _) hne h1 hcan
        by_cases hn : -9223372036854775808 < n
        · rw [if_pos hn]
          constructor
          · intro h
            injection h with h
            subst h
            refine ⟨?_, by unfold i64b; omega⟩
            unfold itoa
            rw [if_neg (by omega), h2, show (-(-(val 0 s : Int))).toNat = val 0 s by omega, hdd]
          · rintro ⟨h, hb⟩
            unfold itoa at h
            by_cases hv : v < 0
            · rw [if_pos hv] at h
              exact absurd (by rw [h]; rfl) hm
            · rw [if_neg hv] at h
              have e : val 0 s = v.toNat := by rw [h, dd_val]
              congr 1
              omega
        · rw [if_neg hn]
          constructor
          · intro h; cases h
          · rintro ⟨h, hb⟩
            exfalso
            unfold i64b at hb
            unfold itoa at h
            by_cases hv : v < 0
            · rw [if_pos hv] at h
              exact absurd (by rw [h]; rfl) hm
            · rw [if_neg hv] at h
              have e : val 0 s = v.toNat := by rw [h, dd_val]
              omega
theorem ref_num (s : List UInt8) : refNum s = numL s := by
  cases h : numL s with
  | none =>
    cases h2 : refNum s with
    | none => rfl
    | some v => rw [num_iff.2 (ref_iff.1 h2)] at h; cases h
  | some v => exact ref_iff.2 (num_iff.1 h)

/-! ### Words -/
def wordsL : List UInt8 → List (List UInt8)
  | [] => [[]]
  | c :: r => if c = 32 then [] :: wordsL r else match wordsL r with
    | [] => [[c]]
    | w :: ws => (c :: w) :: ws
def glue (p : List UInt8) : List (List UInt8) → List (List UInt8)
  | [] => [p]
  | w :: ws => (p ++ w) :: ws
theorem words_ne : ∀ s, wordsL s ≠ []
  | [] => by simp [wordsL]
  | c :: r => by
    unfold wordsL
    split
    · simp
    · split <;> simp
theorem glue_nil {l : List (List UInt8)} (h : l ≠ []) : glue [] l = l := by
  cases l with
  | nil => exact absurd rfl h
  | cons w ws => rfl
theorem words_space (r : List UInt8) : wordsL (32 :: r) = [] :: wordsL r := by rw [wordsL]; simp
theorem words_other {c : UInt8} {r : List UInt8} (h : c ≠ 32) : wordsL (c :: r) = glue [c] (wordsL r) := by
  rw [wordsL, if_neg h]
  cases wordsL r <;> rfl
theorem glue_glue (p q : List UInt8) (l : List (List UInt8)) : glue p (glue q l) = glue (p ++ q) l := by
  cases l with
  | nil => rfl
  | cons w ws => simp [glue]
theorem words_pre : ∀ (a r : List UInt8), 32 ∉ a → wordsL (a ++ r) = glue a (wordsL r)
  | [], r, _ => (glue_nil (words_ne r)).symm
  | c :: a, r, h => by
    simp only [List.mem_cons, not_or] at h
    rw [List.cons_append, words_other (fun e => h.1 e.symm), words_pre a r h.2, glue_glue]; rfl
theorem words_one {a : List UInt8} (h : 32 ∉ a) : wordsL a = [a] := by
  have := words_pre a [] h
  rw [List.append_nil] at this
  rw [this]
  simp [wordsL, glue]
theorem words_cut {a r : List UInt8} (h : 32 ∉ a) : wordsL (a ++ 32 :: r) = a :: wordsL r := by
  rw [words_pre a _ h, words_space]
  simp [glue]
theorem occ_one (s : List UInt8) (i : Nat) : occAt s [32] i = true ↔ s[i]? = some 32 := by
  unfold occAt
  cases h : s.drop i with
  | nil =>
    have : s.length ≤ i := List.drop_eq_nil_iff.1 h
    simp [List.isPrefixOf, List.getElem?_eq_none this]
  | cons c r =>
    have : s[i]? = some c := by
      have := congrArg List.head? h
      simpa [List.head?_drop] using this
    rw [this]
    simp [List.isPrefixOf]
    exact ⟨fun h => h.symm, fun h => h.symm⟩
theorem split_words : ∀ (n : Nat) (s : List UInt8), s.length ≤ n → splitK [32] 0 (count s [32]) s = wordsL s
  | n, s, hs => by
    rcases index_spec s [32] with ⟨h1, h2⟩ | ⟨i, h1, h2, h3, h4⟩
    · rw [count_miss h1, splitK, words_one]
      intro hm
      obtain ⟨j, hj⟩ := List.getElem?_of_mem hm
      have hlt : j < s.length := by
        rcases Nat.lt_or_ge j s.length with h | h
        · exact h
        · rw [List.getElem?_eq_none h] at hj; cases hj
      have := h2 j (by omega)
      rw [(occ_one s j).2 hj] at this
      cases this
    · have hi := (occ_one s i).1 h3
      have hlt : i < s.length := by
        rcases Nat.lt_or_ge i s.length with h | h
        · exact h
        · rw [List.getElem?_eq_none h] at hi; cases hi
      have e32 : s[i] = 32 := by rw [List.getElem?_eq_getElem hlt] at hi; injection hi
      rw [count_hit (by simp) h1, Nat.add_comm, splitK, if_neg (by rw [h1]; simp), h1]
      have es : s = s.take i ++ 32 :: s.drop (i + 1) := by
        conv => lhs; rw [← List.take_append_drop i s, List.drop_eq_getElem_cons hlt, e32]
      match n, hs with
      | 0, hs => omega
      | n + 1, hs =>
        have ih := split_words n (s.drop (i + 1)) (by rw [List.length_drop]; omega)
        rw [show ((i : Nat) : Int).toNat = i from Int.toNat_natCast i]
        show s.take (i + 0) :: splitK [32] 0 (count (s.drop (i + [32].length)) [32]) (s.drop (i + [32].length)) = wordsL s
        rw [show i + [(32 : UInt8)].length = i + 1 from rfl, ih, Nat.add_zero]
        conv => rhs; rw [es]
        rw [words_cut]
        intro hm
        obtain ⟨j, hj⟩ := List.getElem?_of_mem hm
        have hlj : j < i := by
          rcases Nat.lt_or_ge j i with h | h
          · exact h
          · rw [List.getElem?_eq_none (by rw [List.length_take]; omega)] at hj; cases hj
        rw [List.getElem?_take_of_lt hlj] at hj
        have := h4 j hlj
        rw [(occ_one s j).2 hj] at this
        cases this
end Go.Proofs.YtfehgpjnlkgekaaGreatDoor
