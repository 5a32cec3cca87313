/-
  Plain: a code as a map from marked codes to symbols; what is found by it bit by bit is what the decoder finds.
-/
import Derived.Test.YtacidmamfkfipaaDoorInfSpec
import Derived.Maps.Own
import Derived.Maps.OwnSet
import Derived.Maps.OwnOps
import Derived.Maps.Views
namespace Go.Proofs.YtacidmamfkfipaaDoor
set_option linter.unusedVariables false

def keyL (l : Nat) (c : Int) : Lit := .int .i64 (2 ^ l + c)
def TreeD (zs : List Int) (m : Nat) (D : DataW Unit) : Prop :=
  Maps.IsMap D ∧ ∀ l c, 1 ≤ l → 0 ≤ c → c < 2 ^ l →
    (Maps.has D (keyL l c) = true ↔ ∃ j, j < m ∧ zs.getD j 0 = ((l : Nat) : Int) ∧ codeAt zs j = c) ∧
    (∀ x, Maps.has D (keyL l c) = true → D.atKey (keyL l c) (.lit (.int .i64 0)) = .lit (.int .i64 x) → ∃ j : Nat, j < m ∧ x = (j : Int) ∧ zs.getD j 0 = ((l : Nat) : Int) ∧ codeAt zs j = c)
theorem keyL_inj {l m : Nat} {c d : Int} (h1 : 0 ≤ c) (h2 : c < 2 ^ l) (h3 : 0 ≤ d) (h4 : d < 2 ^ m) (h : keyL l c = keyL m d) : l = m ∧ c = d := by
  unfold keyL at h
  injection h with _ h
  have hlm : l = m := by
    rcases Nat.lt_trichotomy l m with hl | hl | hl
    · have : (2 : Int) ^ (l + 1) ≤ 2 ^ m := by exact_mod_cast Nat.pow_le_pow_right (n := 2) (by omega) (show l + 1 ≤ m by omega)
      rw [Int.pow_succ] at this
      omega
    · exact hl
    · have : (2 : Int) ^ (m + 1) ≤ 2 ^ l := by exact_mod_cast Nat.pow_le_pow_right (n := 2) (by omega) (show m + 1 ≤ l by omega)
      rw [Int.pow_succ] at this
      omega
  subst hlm
  exact ⟨rfl, by omega⟩
theorem tree_zero (zs : List Int) : TreeD zs 0 (.map []) := by
  refine ⟨Maps.isMap_empty, fun l c h1 h2 h3 => ⟨⟨fun h => ?_, fun ⟨j, h, _⟩ => absurd h (by omega)⟩, fun x h => ?_⟩⟩
  · rw [Maps.has_eq] at h; cases h
  · rw [Maps.has_eq] at h; cases h
theorem tree_pass {zs : List Int} {m : Nat} {D : DataW Unit} (h : TreeD zs m D) (hz : zs.getD m 0 ≤ 0) : TreeD zs (m + 1) D := by
  refine ⟨h.1, fun l c h1 h2 h3 => ?_⟩
  obtain ⟨a, b⟩ := h.2 l c h1 h2 h3
  refine ⟨a.trans ⟨fun ⟨j, hj, e1, e2⟩ => ⟨j, by omega, e1, e2⟩, fun ⟨j, hj, e1, e2⟩ => ⟨j, ?_, e1, e2⟩⟩, fun x hx hk => ?_⟩
  · rcases Nat.lt_or_ge j m with h | h
    · exact h
    · obtain rfl : j = m := by omega
      omega
  · obtain ⟨j, hj, e⟩ := b x hx hk
    exact ⟨j, by omega, e⟩
theorem tree_put {zs : List Int} {m l0 : Nat} {D : DataW Unit} (h : TreeD zs m D) (hl0 : 1 ≤ l0) (hz : zs.getD m 0 = (l0 : Int)) (hc0 : 0 ≤ codeAt zs m) (hc1 : codeAt zs m < 2 ^ l0) : TreeD zs (m + 1) (D.put (keyL l0 (codeAt zs m)) (.lit (.int .i64 (m : Int)))) := by
  have hk : WideAt.IsKeyLit (keyL l0 (codeAt zs m)) := by unfold keyL WideAt.IsKeyLit; trivial
  refine ⟨h.1.put _ _, fun l c h1 h2 h3 => ?_⟩
  obtain ⟨a, b⟩ := h.2 l c h1 h2 h3
  by_cases hkey : keyL l c = keyL l0 (codeAt zs m)
  · obtain ⟨rfl, rfl⟩ := keyL_inj h2 h3 hc0 hc1 hkey
    refine ⟨⟨fun _ => ⟨m, by omega, hz, rfl⟩, fun _ => Maps.has_put_same h.1 hk _⟩, fun x _ hx => ?_⟩
    rw [Maps.atKey_put_same h.1 hk] at hx
    injection hx with hx
    injection hx with _ hx
    exact ⟨m, by omega, hx.symm, hz, rfl⟩
  · rw [Maps.has_put_other hkey, Maps.atKey_put_other hkey]
    refine ⟨a.trans ⟨fun ⟨j, hj, e1, e2⟩ => ⟨j, by omega, e1, e2⟩, fun ⟨j, hj, e1, e2⟩ => ⟨j, ?_, e1, e2⟩⟩, fun x hx hk => ?_⟩
    · rcases Nat.lt_or_ge j m with h | h
      · exact h
      · obtain rfl : j = m := by omega
        rw [hz] at e1
        obtain rfl : l0 = l := by omega
        exact absurd (by rw [e2]) hkey
    · obtain ⟨j, hj, e⟩ := b x hx hk
      exact ⟨j, by omega, e⟩

/-- What is found is what the decoder finds. -/
theorem tree_find {zs : List Int} {D : DataW Unit} (h : TreeD zs zs.length D) {bt : List Int} (h01 : Bit01 bt) {l : Nat} (hl : 1 ≤ l) :
    Maps.has D (keyL l (codeB bt l)) = hit zs bt l ∧ (∀ x, hit zs bt l = true → D.atKey (keyL l (codeB bt l)) (.lit (.int .i64 0)) = .lit (.int .i64 x) → x = symAt zs bt l) := by
  have hb := codeB_bd h01 l
  obtain ⟨a, b⟩ := h.2 l (codeB bt l) hl hb.1 (by omega)
  have hf := find_hit zs bt l (by omega)
  have hiff : Maps.has D (keyL l (codeB bt l)) = true ↔ hit zs bt l = true := by
    rw [a]
    constructor
    · rintro ⟨j, hj, e1, e2⟩
      by_cases hh : hit zs bt l = true
      · exact hh
      · rw [if_neg hh] at hf
        unfold findB at hf
        rw [List.find?_eq_none] at hf
        have := hf j (by simpa using hj)
        exact absurd (by rw [e1, e2]; simp; omega) this
    · intro hh
      rw [if_pos hh] at hf
      have h1 := List.find?_some hf
      have h2 := List.mem_of_find?_eq_some hf
      simp only [Bool.and_eq_true, decide_eq_true_eq, beq_iff_eq, List.mem_range] at h1 h2
      exact ⟨_, h2, h1.2.1, h1.2.2⟩
  refine ⟨by rw [Bool.eq_iff_iff]; exact hiff, fun x hh hx => ?_⟩
  obtain ⟨j, hj, rfl, e1, e2⟩ := b x (hiff.2 hh) hx
  have h1 := code_of (by omega) e1
  have h2 := sym_at zs l j hj e1
  unfold symAt
  have h3 : codeB bt l - firstAt zs l = (cnt (zs.take j) l : Int) := by omega
  rw [h3, Int.toNat_natCast, List.getD_eq_getElem?_getD, h2]
  rfl

theorem go_none {zs bt : List Int} : ∀ f l, (∀ k, l < k → k ≤ l + f → k ≤ bt.length → hit zs bt k = false) → (nextGo zs bt f l).1 = none
  | 0, l, _ => rfl
  | f + 1, l, h => by
    simp only [nextGo]
    split
    · rw [if_neg (by rw [h (l + 1) (by omega) (by omega) (by omega)]; simp)]
      exact go_none f (l + 1) (fun k h1 h2 h3 => h k (by omega) (by omega) h3)
    · rfl
theorem go_some {zs bt : List Int} : ∀ f l n, l ≤ n → n < l + f → n < bt.length → (∀ k, l < k → k ≤ n → hit zs bt k = false) → hit zs bt (n + 1) = true → nextGo zs bt f l = (some (symAt zs bt (n + 1)), n + 1)
  | 0, l, n, h1, h2, _, _, _ => by omega
  | f + 1, l, n, h1, h2, h3, h4, h5 => by
    simp only [nextGo]
    rw [if_pos (by omega)]
    rcases Nat.eq_or_lt_of_le h1 with rfl | hlt
    · rw [if_pos h5]
    · rw [if_neg (by rw [h4 (l + 1) (by omega) (by omega)]; simp)]
      exact go_some f (l + 1) n (by omega) (by omega) h3 (fun k a b => h4 k (by omega) b) h5
theorem hit_max {zs bt : List Int} {l : Nat} (hl : 1 ≤ l) (h : hit zs bt l = true) : (l : Int) ≤ maxL zs := by
  have hf := find_hit zs bt l (by omega)
  rw [if_pos h] at hf
  have h1 := List.find?_some hf
  have h2 := List.mem_of_find?_eq_some hf
  simp only [Bool.and_eq_true, decide_eq_true_eq, beq_iff_eq, List.mem_range] at h1 h2
  have := maxL_ge h2
  omega
theorem symR_none {bt zs : List Int} {p : Nat} (h : ∀ k, 0 < k → k ≤ (bt.drop p).length → hit zs (bt.drop p) k = false) : symR bt zs p = .bad false := by
  have := go_none (zs := zs) (bt := bt.drop p) (maxL zs).toNat 0 (fun k h1 _ h3 => h k h1 h3)
  unfold symR nextOf
  revert this
  rcases nextGo zs (bt.drop p) (maxL zs).toNat 0 with ⟨_ | x, k⟩
  · intro _; rfl
  · intro h; cases h
theorem symR_some {bt zs : List Int} {p n : Nat} (hn : p + n < bt.length) (h : NoHit zs (bt.drop p) n) (hh : hit zs (bt.drop p) (n + 1) = true) : symR bt zs p = .ok (symAt zs (bt.drop p) (n + 1)).toNat (p + (n + 1)) := by
  have hm := hit_max (by omega) hh
  have := go_some (zs := zs) (bt := bt.drop p) (maxL zs).toNat 0 n (by omega) (by omega) (by rw [List.length_drop]; omega) (fun k a b => h k a b) hh
  unfold symR nextOf
  rw [this]
end Go.Proofs.YtacidmamfkfipaaDoor
