/-
  Lengths of weights: what the laws ask of them.
-/
import Derived.Test.YtacidmamfkfipaaPackLen
namespace Go.Proofs.Ytacidmamfkfipaa
set_option linter.unusedVariables false
set_option linter.unusedSimpArgs false

theorem lenOk_parts {l : List Int} {most : Int} (h : lengthsOk l most = true) : l.length ≤ 288 ∧ 1 ≤ most ∧ most ≤ 15 ∧ l.all fairF = true ∧ (onesOf l).length ≤ 2 ^ most.toNat := by
  unfold lengthsOk at h
  simp only [Bool.and_eq_true, decide_eq_true_eq] at h
  exact ⟨h.1.1.1.1, h.1.1.1.2, h.1.1.2, h.1.2, h.2⟩
theorem fair_at {l : List Int} (h : l.all fairF = true) {s : Nat} (hs : s < l.length) : 0 ≤ l.getD s 0 ∧ l.getD s 0 ≤ 1048576 := by
  have := List.all_eq_true.1 h (l.getD s 0) (by simp [hs])
  unfold fairF at this
  simpa using this
theorem one_pos {l : List Int} {s : Nat} (hs : s < l.length) (h : 0 < l.getD s 0) : (s : Int) ∈ symsOf (onesOf l) := (syms_perm (stSort_steq (onesOf l)).1).mem_iff.2 (sym_of_ones hs h)
/-- Each length, and when it is nought. -/
theorem lens_each {l : List Int} {most : Int} (h : lengthsOk l most = true) {s : Nat} (hs : s < l.length) :
    0 ≤ (lengthsOf l most.toNat).getD s 0 ∧ (lengthsOf l most.toNat).getD s 0 ≤ most ∧ ((lengthsOf l most.toNat).getD s 0 = 0 ↔ l.getD s 0 = 0) := by
  obtain ⟨h1, h2, h3, h4, h5⟩ := lenOk_parts h
  have hf := fair_at h4 hs
  by_cases n0 : (onesOf l).length = 0
  · have e : (lengthsOf l most.toNat).getD s 0 = 0 := by unfold lengthsOf; rw [if_pos n0]; simp [hs]
    rw [e]
    refine ⟨Int.le_refl _, by omega, fun _ => ?_, fun _ => rfl⟩
    by_cases hp : 0 < l.getD s 0
    · have := one_pos hs hp
      rw [List.eq_nil_of_length_eq_zero n0] at this
      simp [symsOf] at this
    · omega
  · by_cases n1 : (onesOf l).length = 1
    · have e : (lengthsOf l most.toNat).getD s 0 = cnt (symsOf (onesOf l)) s := by unfold lengthsOf; rw [if_neg n0, if_pos n1]; simp [hs]
      rw [e]
      by_cases hp : 0 < l.getD s 0
      · have hm := one_pos hs hp
        obtain ⟨q, hq, he⟩ := List.getElem_of_mem hm
        have hc := cnt_take1 (symsOf (onesOf l)) q s (symsOf (onesOf l)).length (ones_nodup l) (by rw [List.getElem?_eq_getElem hq, he])
        rw [List.take_length, if_pos hq] at hc
        rw [hc]
        exact ⟨by omega, by omega, fun h => by omega, fun h => by omega⟩
      · have hc := cnt_none (S := symsOf (onesOf l)) (s := s) (fun z hz e => by
          rw [e] at hz
          exact sym_not_ones hp ((syms_perm (stSort_steq (onesOf l)).1).mem_iff.1 hz))
        rw [hc]
        exact ⟨by omega, by omega, fun _ => by omega, fun _ => rfl⟩
    · obtain ⟨T, H⟩ := len_facts l most.toNat (by omega) h4 (by omega) h5
      rw [lens_at (by omega) hs]
      by_cases hp : 0 < l.getD s 0
      · obtain ⟨q, hq, he⟩ := List.getElem_of_mem (sym_of_ones hs hp)
        have h6 := H.at_ q s (by rw [List.getElem?_eq_getElem hq, he])
        have h7 := H.pos q (by rw [← syms_len l h4]; exact hq)
        have h8 : over T q ≤ most.toNat := by rw [← H.len]; exact over_le T q
        rw [h6]
        exact ⟨by omega, by omega, fun h => by omega, fun h => by omega⟩
      · have h6 := H.off s (sym_not_ones hp)
        rw [h6]
        exact ⟨by omega, by omega, fun _ => by omega, fun _ => rfl⟩
theorem lastOne_all : ∀ (zs : List Int), (∀ z ∈ zs, 0 < z → z = 1) → ∀ b, (b = true ∨ ∃ z ∈ zs, 0 < z) → zs.foldl (fun b z => if 0 < z then z == 1 else b) b = true
  | [], _, b, h => by
    rcases h with h | ⟨z, hz, _⟩
    · exact h
    · simp at hz
  | z :: zs, h, b, hb => by
    rw [List.foldl_cons]
    apply lastOne_all zs (fun y hy => h y (by simp [hy]))
    by_cases hz : 0 < z
    · left
      rw [if_pos hz, h z (by simp) hz]
      rfl
    · rw [if_neg hz]
      rcases hb with hb | ⟨y, hy, hp⟩
      · exact .inl hb
      · rcases List.mem_cons.1 hy with rfl | hy
        · exact absurd hp hz
        · exact .inr ⟨y, hy, hp⟩
theorem posn_cnt1 (S : List Int) (s0 : Nat) : ∀ N : Nat, posn ((List.range N).map fun s : Nat => (cnt [(s0 : Int)] s : Int)) = if s0 < N then 1 else 0
  | 0 => by simp [posn]
  | N + 1 => by
    rw [List.range_succ, List.map_append, List.map_cons, List.map_nil, posn_snoc, posn_cnt1 S s0 N, cnt_cons]
    have e : cnt [] N = 0 := rfl
    rw [e]
    by_cases h : (s0 : Int) = (N : Int)
    · have hN : s0 = N := by omega
      subst hN
      simp
    · rw [if_neg h]
      by_cases h2 : s0 < N
      · rw [if_pos h2, if_pos (show s0 < N + 1 by omega)]; simp
      · rw [if_neg h2, if_neg (show ¬ s0 < N + 1 by omega)]; simp
/-- They make a code. -/
theorem lens_makes {l : List Int} {most : Int} (h : lengthsOk l most = true) : makesOf (lengthsOf l most.toNat) = true := by
  obtain ⟨h1, h2, h3, h4, h5⟩ := lenOk_parts h
  have hlen := lens_len l most.toNat
  have hall : (lengthsOf l most.toNat).all okLen = true := by
    rw [List.all_eq_true]
    intro z hz
    obtain ⟨s, hs, rfl⟩ := List.getElem_of_mem hz
    have := lens_each h (s := s) (by omega)
    rw [show (lengthsOf l most.toNat).getD s 0 = (lengthsOf l most.toNat)[s] from by simp [hs]] at this
    unfold okLen
    simp; omega
  unfold makesOf
  rw [hall, show decide ((lengthsOf l most.toNat).length ≤ 288) = true from by simp; omega, Bool.true_and, Bool.true_and]
  by_cases n0 : (onesOf l).length = 0
  · have e : posn (lengthsOf l most.toNat) = 0 := by
      unfold lengthsOf; rw [if_pos n0]; unfold posn
      rw [List.length_eq_zero_iff, List.filter_eq_nil_iff]
      intro z hz
      rw [List.eq_of_mem_replicate hz]; simp
    rw [e]; rfl
  · by_cases n1 : (onesOf l).length = 1
    · obtain ⟨p, hp⟩ := List.length_eq_one_iff.1 n1
      obtain ⟨s0, hs1, hs2, rfl⟩ := ones_is l (p := p) (by rw [hp]; simp)
      have e0 : lengthsOf l most.toNat = (List.range l.length).map fun s : Nat => (cnt [(s0 : Int)] s : Int) := by
        unfold lengthsOf; rw [if_neg n0, if_pos n1, hp]; rfl
      rw [e0, posn_cnt1 [] s0 l.length, if_pos hs1]
      have e1 : lastOne ((List.range l.length).map fun s : Nat => (cnt [(s0 : Int)] s : Int)) = true := by
        refine lastOne_all _ (fun z hz hp => ?_) false (.inr ⟨1, List.mem_map.2 ⟨s0, by simpa using hs1, by rw [cnt_cons, if_pos rfl]; rfl⟩, by omega⟩)
        obtain ⟨s, _, rfl⟩ := List.mem_map.1 hz
        rw [cnt_cons] at hp ⊢
        have e : cnt [] s = 0 := rfl
        rw [e] at hp ⊢
        split <;> simp_all
      rw [e1]
      simp
    · obtain ⟨T, H⟩ := len_facts l most.toNat (by omega) h4 (by omega) h5
      rw [lens_kraft h4 (by omega) (by omega) H]
      simp
/-- What weights and lengths cost. -/
def costOf (l zs : List Int) : Int := ((List.range l.length).map fun s : Nat => l.getD s 0 * zs.getD s 0).sum
/-- The weights of the packs that are taken. -/
def leastOf (l : List Int) (ms : Nat) : Int :=
  if (onesOf l).length < 2 then wsum (onesOf l) else wsum ((rowAt (stSort (onesOf l)) (ms - 1)).take (2 * (onesOf l).length - 2))
theorem lens_cost {l : List Int} {most : Int} (h : lengthsOk l most = true) : costOf l (lengthsOf l most.toNat) = leastOf l most.toNat := by
  obtain ⟨h1, h2, h3, h4, h5⟩ := lenOk_parts h
  obtain ⟨o1, o2, o3, o4⟩ := ones_facts l h4
  unfold costOf leastOf
  by_cases n2 : (onesOf l).length < 2
  · rw [if_pos n2]
    have e : ∀ s : Nat, s < l.length → (lengthsOf l most.toNat).getD s 0 = (cnt (symsOf (onesOf l)) s : Int) := by
      intro s hs
      by_cases n0 : (onesOf l).length = 0
      · unfold lengthsOf
        rw [if_pos n0, List.eq_nil_of_length_eq_zero n0]
        simp [hs, symsOf, cnt]
      · unfold lengthsOf
        rw [if_neg n0, if_pos (by omega)]
        simp [hs]
    have e2 : (List.range l.length).map (fun s : Nat => l.getD s 0 * (lengthsOf l most.toNat).getD s 0) = (List.range l.length).map (fun s : Nat => l.getD s 0 * (cnt (symsOf (onesOf l)) s : Int)) := by
      apply List.map_congr_left
      intro s hs
      rw [e s (by simpa using hs)]
    rw [e2, sum_cnt l l.length (symsOf (onesOf l)) (fun z hz => by
      obtain ⟨p, hp, hz'⟩ := List.mem_flatMap.1 hz
      exact o2 p hp z hz'), wt_sum _ (wt_ones l)]
  · rw [if_neg n2]
    have e2 : (List.range l.length).map (fun s : Nat => l.getD s 0 * (lengthsOf l most.toNat).getD s 0) = (List.range l.length).map (fun s : Nat => l.getD s 0 * (cnt (symsOf ((rowAt (stSort (onesOf l)) (most.toNat - 1)).take (2 * (onesOf l).length - 2))) s : Int)) := by
      apply List.map_congr_left
      intro s hs
      rw [lens_at (by omega) (by simpa using hs), stSort_len]
    rw [e2, sum_cnt l l.length _ (fun z hz => by
      obtain ⟨p, hp, hz'⟩ := List.mem_flatMap.1 hz
      exact within_row (within_sort o2) _ p (List.mem_of_mem_take hp) z hz'), wt_sum _ (fun p hp => wt_row (fun q hq => wt_ones l q (((stSort_steq _).mem q).2 hq)) _ p (List.mem_of_mem_take hp))]
/-- A heavier symbol has no longer code. -/
theorem lens_falls {l : List Int} {most : Int} (h : lengthsOk l most = true) {i j : Nat} (hi : i < l.length) (hj : j < l.length) (hp : 0 < l.getD j 0) (hlt : l.getD j 0 < l.getD i 0) :
    (lengthsOf l most.toNat).getD i 0 ≤ (lengthsOf l most.toNat).getD j 0 := by
  obtain ⟨h1, h2, h3, h4, h5⟩ := lenOk_parts h
  have hone : ∀ p ∈ stSort (onesOf l), p.2.length = 1 := fun p hp => ((ones_facts l h4).2.2.1 p (((stSort_steq _).mem p).2 hp)).2
  have key : ∀ s : Nat, s < l.length → 0 < l.getD s 0 → ∃ q : Nat, (stSort (onesOf l))[q]? = some (l.getD s 0, [(s : Int)]) := by
    intro s hs hp
    have hm : (l.getD s 0, [(s : Int)]) ∈ onesOf l := by
      unfold onesOf
      exact List.mem_filterMap.2 ⟨s, by simpa using hs, by rw [if_pos hp]⟩
    obtain ⟨q, hq, he⟩ := List.getElem_of_mem (((stSort_steq (onesOf l)).mem _).1 hm)
    exact ⟨q, by rw [List.getElem?_eq_getElem hq, he]⟩
  obtain ⟨qi, hqi⟩ := key i hi (by omega)
  obtain ⟨qj, hqj⟩ := key j hj hp
  have hij : i ≠ j := by rintro rfl; omega
  have hle : qj ≤ qi := by
    rcases Nat.lt_or_ge qi qj with hlt2 | hge
    · obtain ⟨a1, a2⟩ := List.getElem?_eq_some_iff.1 hqi
      obtain ⟨b1, b2⟩ := List.getElem?_eq_some_iff.1 hqj
      have := List.pairwise_iff_getElem.1 (stSort_srt (onesOf l)) qi qj a1 b1 hlt2
      rw [a2, b2] at this
      simp only at this
      omega
    · exact hge
  have n2 : 2 ≤ (onesOf l).length := by
    have hne : qi ≠ qj := by
      rintro rfl
      rw [hqi] at hqj
      injection hqj with hqj
      injection hqj with e1 e2
      omega
    obtain ⟨a1, _⟩ := List.getElem?_eq_some_iff.1 hqi
    obtain ⟨b1, _⟩ := List.getElem?_eq_some_iff.1 hqj
    rw [stSort_len] at a1 b1
    omega
  obtain ⟨T, H⟩ := len_facts l most.toNat (by omega) h4 n2 h5
  rw [lens_at n2 hi, lens_at n2 hj, H.at_ qi i (syms_at _ hone qi _ hqi _ rfl), H.at_ qj j (syms_at _ hone qj _ hqj _ rfl)]
  have := over_anti (ts := T) hle
  omega
end Go.Proofs.Ytacidmamfkfipaa
