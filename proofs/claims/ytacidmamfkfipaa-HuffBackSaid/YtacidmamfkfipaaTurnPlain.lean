/-
  Weights in another order cost the same.
-/
import Derived.Test.YtacidmamfkfipaaLeastPlain
namespace Go.Proofs.Ytacidmamfkfipaa
set_option linter.unusedVariables false

/-- A number brought into 0 to n - 1. -/
def pickOf (x n : Int) : Int := if n < 1 then 0 else if x.tmod n < 0 then x.tmod n + n else x.tmod n
theorem pick_bd (x n : Int) (h : 1 ≤ n) : 0 ≤ pickOf x n ∧ pickOf x n < n := by
  unfold pickOf
  rw [if_neg (by omega)]
  have h1 := Int.tmod_lt_of_pos x (by omega : 0 < n)
  have h2 : -n < x.tmod n := by
    have := Int.tmod_lt_of_pos (-x) (by omega : 0 < n)
    rw [Int.neg_tmod] at this
    omega
  split <;> omega
theorem ones_ws (l : List Int) : ws (onesOf l) = l.filter fun f => decide (0 < f) := by
  have key : ∀ k, k ≤ l.length → ws (onesOf (l.take k)) = (l.take k).filter fun f => decide (0 < f) := by
    intro k
    induction k with
    | zero => intro _; simp [onesOf, ws]
    | succ k ih =>
      intro hk
      rw [take_snoc l k (by omega), onesOf_snoc, List.filter_append]
      have := ih (by omega)
      simp only [ws, List.map_append] at *
      rw [this]
      by_cases h : 0 < l.getD k 0
      · rw [if_pos h]
        simp only [List.filter_cons, h, decide_true, if_true, List.filter_nil, List.map_cons, List.map_nil]
      · rw [if_neg h]
        simp only [List.filter_cons, h, decide_false, if_false, List.filter_nil, List.map_nil, Bool.false_eq_true]
  have := key l.length (Nat.le_refl _)
  rwa [List.take_length] at this
theorem light_perm {l m : List Int} (h : l.Perm m) : lightW l = lightW m := by
  have h1 : (lightW l).Perm (lightW m) := by
    have a := (stSort_steq (onesOf l)).1.symm.map (·.1)
    have b := (stSort_steq (onesOf m)).1.map (·.1)
    have c : (ws (onesOf l)).Perm (ws (onesOf m)) := by rw [ones_ws, ones_ws]; exact h.filter _
    exact (a.trans c).trans b
  have srt : ∀ l : List Int, (lightW l).Pairwise (· ≤ ·) := fun l => List.pairwise_map.2 (stSort_srt (onesOf l))
  exact h1.eq_of_pairwise (le := (· ≤ ·)) (fun a b _ _ h1 h2 => by omega) (srt l) (srt m)
theorem ok_perm {l m : List Int} (h : l.Perm m) {most : Int} (hl : lengthsOk l most = true) : lengthsOk m most = true := by
  obtain ⟨h1, h2, h3, h4, h5⟩ := lenOk_parts hl
  have e1 : (onesOf m).length = (onesOf l).length := by rw [← lightW_len, ← lightW_len, light_perm h]
  have e2 : m.all fairF = true := by
    rw [List.all_eq_true] at h4 ⊢
    intro x hx
    exact h4 x (h.mem_iff.2 hx)
  unfold lengthsOk
  rw [e1, e2, ← h.length_eq]
  simp [h1, h2, h3, h5]
theorem cost_perm {l m : List Int} (h : l.Perm m) {most : Int} (hl : lengthsOk l most = true) : costOf l (lengthsOf l most.toNat) = costOf m (lengthsOf m most.toNat) := by
  have hm := ok_perm h hl
  obtain ⟨_, h2, _, _, _⟩ := lenOk_parts hl
  rw [lens_cost hl, lens_cost hm, least_rows l _ (by omega), least_rows m _ (by omega), light_perm h]
theorem turn_perm (l : List Int) (p : Nat) : l.Perm (l.drop p ++ l.take p) := by
  have h : l = l.take p ++ l.drop p := (List.take_append_drop p l).symm
  conv => lhs; rw [h]
  exact List.perm_append_comm
end Go.Proofs.Ytacidmamfkfipaa
