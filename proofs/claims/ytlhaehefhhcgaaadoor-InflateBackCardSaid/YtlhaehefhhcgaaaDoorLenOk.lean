/-
  Packages that are merged: the lengths make a code; heavier symbols have no longer codes; what they cost.
  The lengths that weights have: they make a code, none above the limit, and what they cost.
  Lengths of weights: what the laws ask of them.
-/
import Derived.Test.YtlhaehefhhcgaaaDoorLenPlain
import Derived.Test.YtlhaehefhhcgaaaDoorHuffSpec
namespace Go.Proofs.YtlhaehefhhcgaaaDoor
set_option linter.unusedVariables false
set_option linter.unusedSimpArgs false

section
variable {β : Type}
/-- Two rows, merged: the first ones ahead of equal others. -/
def mrg : List (Int × β) → List (Int × β) → List (Int × β)
  | [], v => v
  | x :: u, [] => x :: u
  | x :: u, y :: v => if x.1 ≤ y.1 then x :: mrg u (y :: v) else y :: mrg (x :: u) v
termination_by u v => u.length + v.length
theorem mrg_nil (u : List (Int × β)) : mrg u [] = u := by cases u <;> simp [mrg]
theorem mrg_perm : ∀ (u v : List (Int × β)), (u ++ v).Perm (mrg u v)
  | [], v => by simp [mrg]
  | x :: u, [] => by simp [mrg]
  | x :: u, y :: v => by
    rw [mrg]
    split
    · exact (mrg_perm u (y :: v)).cons x
    · exact List.perm_middle.trans ((mrg_perm (x :: u) v).cons y)
termination_by u v => u.length + v.length
theorem mrg_srt : ∀ (u v : List (Int × β)), Srt u → Srt v → Srt (mrg u v)
  | [], v, _, hv => by simpa [mrg] using hv
  | x :: u, [], hu, _ => by simpa [mrg] using hu
  | x :: u, y :: v, hu, hv => by
    have hu' := List.pairwise_cons.1 hu
    have hv' := List.pairwise_cons.1 hv
    rw [mrg]
    split
    · rename_i h
      refine List.pairwise_cons.2 ⟨fun q hq => ?_, mrg_srt u (y :: v) hu'.2 hv⟩
      rcases List.mem_append.1 ((mrg_perm u (y :: v)).mem_iff.2 hq) with h1 | h1
      · exact hu'.1 q h1
      · rcases List.mem_cons.1 h1 with rfl | h1
        · exact h
        · have := hv'.1 q h1; omega
    · rename_i h
      refine List.pairwise_cons.2 ⟨fun q hq => ?_, mrg_srt (x :: u) v hu hv'.2⟩
      rcases List.mem_append.1 ((mrg_perm (x :: u) v).mem_iff.2 hq) with h1 | h1
      · rcases List.mem_cons.1 h1 with rfl | h1
        · omega
        · have := hu'.1 q h1; omega
      · exact hv'.1 q h1
termination_by u v => u.length + v.length
theorem mrg_steq : ∀ (u v : List (Int × β)), Srt u → Srt v → StEq (u ++ v) (mrg u v)
  | [], v, _, _ => by simpa [mrg] using StEq.refl v
  | x :: u, [], _, _ => by simpa [mrg] using StEq.refl (x :: u)
  | x :: u, y :: v, hu, hv => by
    have hu' := List.pairwise_cons.1 hu
    have hv' := List.pairwise_cons.1 hv
    rw [mrg]
    split
    · exact (StEq.refl [x]).append (mrg_steq u (y :: v) hu'.2 hv)
    · rename_i h
      have h1 := (StEq.ahead y (x :: u) (fun q hq => by
        rcases List.mem_cons.1 hq with rfl | hq
        · omega
        · have := hu'.1 q hq; omega)).append (StEq.refl v)
      have h2 := (StEq.refl [y]).append (mrg_steq (x :: u) v hu hv'.2)
      exact (show StEq (x :: u ++ y :: v) (y :: (x :: u) ++ v) by simpa using h1).trans (by simpa using h2)
termination_by u v => u.length + v.length
theorem stSort_mrg {u v : List (Int × β)} (hu : Srt u) (hv : Srt v) : stSort (u ++ v) = mrg u v := (stSort_of (mrg_srt u v hu hv) (mrg_steq u v hu hv)).symm
/-- The first p of two rows that are merged: a of the one, b of the other; who is left of the first row is above whom the second one gave. -/
theorem mrg_take : ∀ (u v : List (Int × β)) (p : Nat), p ≤ u.length + v.length → Srt u → Srt v →
    ∃ a b, a + b = p ∧ a ≤ u.length ∧ b ≤ v.length ∧ ((mrg u v).take p).Perm (u.take a ++ v.take b) ∧ ∀ x ∈ u.drop a, ∀ y ∈ v.take b, y.1 < x.1
  | u, v, 0, _, _, _ => ⟨0, 0, rfl, Nat.zero_le _, Nat.zero_le _, by simp, by simp⟩
  | [], v, p + 1, hp, _, _ => ⟨0, p + 1, by omega, Nat.zero_le _, by simpa using hp, by simp [mrg], by simp⟩
  | x :: u, [], p + 1, hp, _, _ => ⟨p + 1, 0, by omega, by simpa using hp, Nat.zero_le _, by simp [mrg], by simp⟩
  | x :: u, y :: v, p + 1, hp, hu, hv => by
    have hu' := List.pairwise_cons.1 hu
    have hv' := List.pairwise_cons.1 hv
    rw [mrg]
    simp only [List.length_cons] at hp
    split
    · obtain ⟨a, b, h1, h2, h3, h4, h5⟩ := mrg_take u (y :: v) p (by simp only [List.length_cons]; omega) hu'.2 hv
      exact ⟨a + 1, b, by omega, by simp only [List.length_cons]; omega, h3, by simpa using h4.cons x, by simpa using h5⟩
    · rename_i h
      obtain ⟨a, b, h1, h2, h3, h4, h5⟩ := mrg_take (x :: u) v p (by simp only [List.length_cons]; omega) hu hv'.2
      refine ⟨a, b + 1, by omega, h2, by simp only [List.length_cons]; omega, ?_, fun z hz q hq => ?_⟩
      · rw [List.take_succ_cons, List.take_succ_cons]
        exact (h4.cons y).trans List.perm_middle.symm
      · rw [List.take_succ_cons] at hq
        rcases List.mem_cons.1 hq with rfl | hq
        · rcases List.mem_cons.1 (List.mem_of_mem_drop hz) with rfl | hz'
          · omega
          · have := hu'.1 z hz'; omega
        · exact h5 z hz q hq
termination_by u v => u.length + v.length
end

theorem pairs_mem : ∀ (l : List AP) (q : AP), q ∈ pairsOf l → ∃ c ∈ l, ∃ d ∈ l, q.1 = c.1 + d.1
  | [], q, h => by simp [pairsOf] at h
  | [a], q, h => by simp [pairsOf] at h
  | a :: b :: r, q, h => by
    simp only [pairsOf, List.mem_cons] at h
    rcases h with rfl | h
    · exact ⟨a, by simp, b, by simp, rfl⟩
    · obtain ⟨c, hc, d, hd, e⟩ := pairs_mem r q h
      exact ⟨c, by simp [hc], d, by simp [hd], e⟩
theorem pairs_srt : ∀ (l : List AP), Srt l → Srt (pairsOf l)
  | [], _ => by simp [pairsOf, Srt]
  | [a], _ => by simp [pairsOf, Srt]
  | a :: b :: r, h => by
    have h1 := List.pairwise_cons.1 h
    have h2 := List.pairwise_cons.1 h1.2
    refine List.pairwise_cons.2 ⟨fun q hq => ?_, pairs_srt r h2.2⟩
    obtain ⟨c, hc, d, hd, e⟩ := pairs_mem r q hq
    have k1 := h1.1 c (by simp [hc])
    have k2 := h2.1 d hd
    simp only
    omega
theorem pairs_take : ∀ (b : Nat) (l : List AP), (pairsOf l).take b = pairsOf (l.take (2 * b))
  | 0, l => by simp [pairsOf]
  | b + 1, [] => by simp [pairsOf]
  | b + 1, [a] => by rw [show 2 * (b + 1) = (2 * b + 1) + 1 from by omega]; simp [pairsOf]
  | b + 1, x :: y :: r => by
    rw [show 2 * (b + 1) = 2 * b + 1 + 1 from by omega, List.take_succ_cons, List.take_succ_cons]
    simp only [pairsOf, List.take_succ_cons]
    rw [pairs_take b r]
theorem pairs_syms : ∀ (l : List AP) (k : Nat), l.length = 2 * k → symsOf (pairsOf l) = symsOf l ∧ wsum (pairsOf l) = wsum l
  | [], _, _ => by simp [pairsOf]
  | [a], k, h => by simp at h; omega
  | a :: b :: r, k, h => by
    obtain ⟨h1, h2⟩ := pairs_syms r (k - 1) (by simp at h; omega)
    simp only [symsOf, wsum] at h1 h2
    constructor
    · simp [pairsOf, symsOf, h1]
    · simp [pairsOf, wsum, h2]; omega
theorem pairs_has : ∀ (l : List AP) (k : Nat) (x : AP), l.length = 2 * k → x ∈ l → ∃ y ∈ pairsOf l, ∃ z ∈ l, y.1 = x.1 + z.1
  | [], _, x, _, h => by simp at h
  | [a], k, x, h, _ => by simp at h; omega
  | a :: b :: r, k, x, h, hx => by
    simp only [List.mem_cons] at hx
    rcases hx with rfl | rfl | hx
    · exact ⟨(x.1 + b.1, x.2 ++ b.2), by simp [pairsOf], b, by simp, rfl⟩
    · exact ⟨(a.1 + x.1, a.2 ++ x.2), by simp [pairsOf], a, by simp, by simp only; omega⟩
    · obtain ⟨y, hy, z, hz, e⟩ := pairs_has r (k - 1) x (by simp at h; omega) hx
      exact ⟨y, by simp [pairsOf, hy], z, by simp [hz], e⟩
def PosS (l : List AP) : Prop := ∀ p ∈ l, 0 < p.1
theorem posS_row {one : List AP} (h : PosS one) : ∀ k, PosS (rowAt one k)
  | 0 => h
  | k + 1 => fun p hp => by
    rcases List.mem_append.1 (((stSort_steq _).mem p).2 hp) with h1 | h1
    · exact h p h1
    · obtain ⟨c, hc, d, hd, e⟩ := pairs_mem _ p h1
      have := posS_row h k c hc
      have := posS_row h k d hd
      omega
theorem row_srt {one : List AP} (h : Srt one) : ∀ k, Srt (rowAt one k)
  | 0 => h
  | k + 1 => stSort_srt _

/-- ts: how many singles are taken in each row, the last row first. -/
def width : List Nat → Nat
  | [] => 0
  | a :: ts => a * 2 ^ ts.length + width ts
theorem pack_rows {one : List AP} (hs : Srt one) (hp : PosS one) : ∀ (k p : Nat), p ≤ (rowAt one k).length →
    ∃ a ts, ts.length = k ∧ a ≤ one.length ∧ (∀ b ∈ ts, b ≤ a) ∧ ts.Pairwise (fun x y => y ≤ x) ∧ width (a :: ts) = p * 2 ^ k ∧ (∀ x ∈ one.take a, x ∈ (rowAt one k).take p) ∧
      (symsOf ((rowAt one k).take p)).Perm ((a :: ts).flatMap fun a => symsOf (one.take a))
  | 0, p, hpl => ⟨p, [], rfl, hpl, by simp, .nil, by simp [width], fun x hx => hx, by simp [rowAt]⟩
  | k + 1, p, hpl => by
    have hrk := row_srt hs k
    have hm : rowAt one (k + 1) = mrg one (pairsOf (rowAt one k)) := stSort_mrg hs (pairs_srt _ hrk)
    have hlen := rowAt_len one k
    obtain ⟨a, b, h1, h2, h3, h4, h5⟩ := mrg_take one (pairsOf (rowAt one k)) p (by rw [pairsOf_len]; omega) hs (pairs_srt _ hrk)
    rw [pairsOf_len] at h3
    rw [pairs_take] at h4 h5
    have hl2 : ((rowAt one k).take (2 * b)).length = 2 * b := by rw [List.length_take]; omega
    obtain ⟨a', ts, g1, g2, g3, g4, g5, g6, g7⟩ := pack_rows hs hp k (2 * b) (by omega)
    have hnest : a' ≤ a := by
      rcases Nat.lt_or_ge a a' with hlt | hge
      · have hx : a < one.length := by omega
        have hx1 : one[a] ∈ one.drop a := by rw [List.drop_eq_getElem_cons hx]; exact List.mem_cons_self
        have hx2 : one[a] ∈ one.take a' := by
          rw [List.mem_take_iff_getElem]
          exact ⟨a, by omega, rfl⟩
        obtain ⟨y, hy, z, hz, e⟩ := pairs_has _ b one[a] hl2 (g6 _ hx2)
        have k1 := h5 _ hx1 y hy
        have k2 := posS_row hp k z (List.mem_of_mem_take hz)
        omega
      · exact hge
    refine ⟨a, a' :: ts, by simp [g1], h2, ?_, List.pairwise_cons.2 ⟨g3, g4⟩, ?_, ?_, ?_⟩
    · intro c hc
      rcases List.mem_cons.1 hc with rfl | hc
      · exact hnest
      · exact Nat.le_trans (g3 c hc) hnest
    · rw [width, g5, List.length_cons, g1, ← h1, Nat.add_mul, Nat.pow_succ]
      have : 2 * b * 2 ^ k = b * (2 ^ k * 2) := by rw [Nat.mul_comm 2 b, Nat.mul_assoc, Nat.mul_comm 2]
      omega
    · intro x hx
      rw [hm]
      exact h4.mem_iff.2 (List.mem_append_left _ hx)
    · rw [hm, List.flatMap_cons]
      have e1 : (symsOf ((mrg one (pairsOf (rowAt one k))).take p)).Perm (symsOf (one.take a ++ pairsOf ((rowAt one k).take (2 * b)))) := h4.flatMap_right _
      refine e1.trans ?_
      rw [show symsOf (one.take a ++ pairsOf ((rowAt one k).take (2 * b))) = symsOf (one.take a) ++ symsOf (pairsOf ((rowAt one k).take (2 * b))) from by simp [symsOf], (pairs_syms _ b hl2).1]
      exact List.Perm.append_left _ g7

/-- How many of the numbers are above i. -/
def over (ts : List Nat) (i : Nat) : Nat := (ts.filter fun a => decide (i < a)).length
theorem over_cons (a : Nat) (ts : List Nat) (i : Nat) : over (a :: ts) i = (if i < a then 1 else 0) + over ts i := by
  unfold over
  by_cases h : i < a
  · rw [List.filter_cons_of_pos (by simpa using h), if_pos h, List.length_cons]; omega
  · rw [List.filter_cons_of_neg (by simpa using h), if_neg h]; omega
theorem over_le (ts : List Nat) (i : Nat) : over ts i ≤ ts.length := List.length_filter_le _ _
theorem over_anti {ts : List Nat} {i j : Nat} (h : i ≤ j) : over ts j ≤ over ts i := by
  induction ts with
  | nil => simp [over]
  | cons a ts ih =>
    rw [over_cons, over_cons]
    by_cases h1 : j < a
    · rw [if_pos h1, if_pos (by omega)]; omega
    · rw [if_neg h1]; omega
theorem over_zero {ts : List Nat} {i : Nat} (h : ∀ b ∈ ts, b ≤ i) : over ts i = 0 := by
  unfold over
  rw [List.length_eq_zero_iff, List.filter_eq_nil_iff]
  intro b hb
  have := h b hb
  simp; omega
/-- Of numbers that fall: what one place is worth. -/
theorem width_one : ∀ (ts : List Nat) (i : Nat), ts.Pairwise (fun x y => y ≤ x) → width (ts.map fun a => if i < a then 1 else 0) + 2 ^ (ts.length - over ts i) = 2 ^ ts.length
  | [], i, _ => by simp [width, over]
  | a :: ts, i, h => by
    have h' := List.pairwise_cons.1 h
    rw [List.map_cons, width, List.length_map, over_cons]
    by_cases hi : i < a
    · rw [if_pos hi]
      have := width_one ts i h'.2
      rw [show (a :: ts).length - (1 + over ts i) = ts.length - over ts i from by simp only [List.length_cons]; omega, List.length_cons, Nat.pow_succ]
      omega
    · rw [if_neg hi]
      have e0 := over_zero (ts := ts) (i := i) (fun b hb => by have := h'.1 b hb; omega)
      have := width_one ts i h'.2
      rw [e0] at this ⊢
      simp only [Nat.sub_zero, Nat.zero_mul, Nat.zero_add, Nat.add_zero] at this ⊢
      rw [List.length_cons, Nat.pow_succ]
      omega
theorem width_add : ∀ (f g : Nat → Nat) (ts : List Nat), width (ts.map fun a => f a + g a) = width (ts.map f) + width (ts.map g)
  | f, g, [] => rfl
  | f, g, a :: ts => by
    simp only [List.map_cons, width, List.length_map, width_add f g ts, Nat.add_mul]
    omega
theorem width_zero (ts : List Nat) : width (ts.map fun _ => 0) = 0 := by
  induction ts with
  | nil => rfl
  | cons a ts ih => simp only [List.map_cons, width, ih]; omega
/-- The numbers, place by place. -/
theorem width_places (ts : List Nat) : ∀ n, width (ts.map fun a => min a n) = ((List.range n).map fun i => width (ts.map fun a => if i < a then 1 else 0)).sum
  | 0 => by simp only [Nat.min_zero, width_zero]; rfl
  | n + 1 => by
    rw [List.range_succ, List.map_append, List.sum_append, ← width_places ts n]
    simp only [List.map_cons, List.map_nil, List.sum_cons, List.sum_nil, Nat.add_zero]
    rw [← width_add]
    congr 1
    apply List.map_congr_left
    intro a _
    by_cases h : n < a
    · rw [if_pos h]; omega
    · rw [if_neg h]; omega
theorem sum_const_sub : ∀ (n M : Nat) (f g : Nat → Nat), (∀ i, f i + g i = M) → ((List.range n).map f).sum + ((List.range n).map g).sum = n * M
  | 0, M, f, g, h => by simp
  | n + 1, M, f, g, h => by
    have := sum_const_sub n M f g h
    have h1 := h n
    rw [List.range_succ, List.map_append, List.sum_append, List.map_append, List.sum_append, Nat.succ_mul]
    simp only [List.map_cons, List.map_nil, List.sum_cons, List.sum_nil, Nat.add_zero]
    omega
theorem width_le : ∀ (ts : List Nat) (m : Nat), (∀ b ∈ ts, b ≤ m) → width ts + m ≤ m * 2 ^ ts.length
  | [], m, _ => by simp [width]
  | a :: ts, m, h => by
    have h1 := width_le ts m (fun b hb => h b (by simp [hb]))
    have h2 := h a (by simp)
    have h3 : a * 2 ^ ts.length ≤ m * 2 ^ ts.length := Nat.mul_le_mul_right _ h2
    rw [width, List.length_cons, Nat.pow_succ, ← Nat.mul_assoc]
    omega
/-- Kraft's sum, of the places: 1, if so many are taken. -/
theorem width_kraft {ts : List Nat} {n : Nat} (hp : ts.Pairwise (fun x y => y ≤ x)) (hn : ∀ b ∈ ts, b ≤ n) (h1 : 1 ≤ n) (hw : width ts = (n - 1) * 2 ^ ts.length) :
    ((List.range n).map fun i => 2 ^ (ts.length - over ts i)).sum = 2 ^ ts.length := by
  have e1 := width_places ts n
  have e2 : ts.map (fun a => min a n) = ts := by
    conv => rhs; rw [← List.map_id ts]
    apply List.map_congr_left
    intro a ha
    have := hn a ha
    simp; omega
  rw [e2] at e1
  have e3 := sum_const_sub n (2 ^ ts.length) (fun i => width (ts.map fun a => if i < a then 1 else 0)) (fun i => 2 ^ (ts.length - over ts i)) (fun i => width_one ts i hp)
  rw [← e1, hw] at e3
  have e4 : n * 2 ^ ts.length = (n - 1) * 2 ^ ts.length + 2 ^ ts.length := by
    conv => lhs; rw [show n = (n - 1) + 1 from by omega]
    rw [Nat.succ_mul]
  omega
/-- .. and then the first number is n. -/
theorem width_full {a : Nat} {ts : List Nat} {n : Nat} (hp : ∀ b ∈ ts, b ≤ a) (h2 : 2 ≤ n) (hw : width (a :: ts) = (n - 1) * 2 ^ (a :: ts).length) (ha : a ≤ n) : a = n := by
  rcases Nat.lt_or_ge a n with hlt | hge
  · have := width_le (a :: ts) (n - 1) (fun b hb => by
      rcases List.mem_cons.1 hb with rfl | hb
      · omega
      · have := hp b hb; omega)
    omega
  · omega
end Go.Proofs.YtlhaehefhhcgaaaDoor
namespace Go.Proofs.YtlhaehefhhcgaaaDoor
set_option linter.unusedVariables false
set_option linter.unusedSimpArgs false

theorem ones_syms_aux (l : List Int) : ∀ R : List Nat, symsOf (R.filterMap fun i => if 0 < l.getD i 0 then some (l.getD i 0, [(i : Int)]) else none) = (R.filter fun i => decide (0 < l.getD i 0)).map fun i : Nat => (i : Int)
  | [] => rfl
  | i :: R => by
    have ih := ones_syms_aux l R
    by_cases h : 0 < l.getD i 0
    · rw [List.filter_cons_of_pos (by simpa using h), List.filterMap_cons_some (b := (l.getD i 0, [(i : Int)])) (by rw [if_pos h]), List.map_cons, ← ih]
      simp [symsOf]
    · rw [List.filter_cons_of_neg (by simpa using h), List.filterMap_cons_none (by rw [if_neg h]), ih]
theorem ones_syms (l : List Int) : symsOf (onesOf l) = ((List.range l.length).filter fun i => decide (0 < l.getD i 0)).map fun i : Nat => (i : Int) := ones_syms_aux l _
theorem ones_is (l : List Int) {p : AP} (h : p ∈ onesOf l) : ∃ i : Nat, i < l.length ∧ 0 < l.getD i 0 ∧ p = (l.getD i 0, [(i : Int)]) := by
  unfold onesOf at h
  obtain ⟨i, hi, he⟩ := List.mem_filterMap.1 h
  by_cases hp : 0 < l.getD i 0
  · rw [if_pos hp] at he
    injection he with he
    exact ⟨i, by simpa using hi, hp, he.symm⟩
  · rw [if_neg hp] at he; cases he
theorem nodup_cast : ∀ (R : List Nat), R.Nodup → (R.map fun i : Nat => (i : Int)).Nodup
  | [], _ => by simp
  | i :: R, h => by
    have h' := List.nodup_cons.1 h
    refine List.nodup_cons.2 ⟨fun hm => ?_, nodup_cast R h'.2⟩
    obtain ⟨j, hj, he⟩ := List.mem_map.1 hm
    have he' : (j : Int) = (i : Int) := he
    exact h'.1 (by rw [show i = j from by omega]; exact hj)
theorem ones_nodup (l : List Int) : (symsOf (onesOf l)).Nodup := by
  rw [ones_syms]
  exact nodup_cast _ (List.Pairwise.filter _ List.nodup_range)
theorem syms_perm {a b : List AP} (h : a.Perm b) : (symsOf a).Perm (symsOf b) := h.flatMap_right _
theorem syms_take : ∀ (one : List AP), (∀ p ∈ one, p.2.length = 1) → ∀ a, symsOf (one.take a) = (symsOf one).take a
  | [], _, a => by simp [symsOf]
  | p :: one, h, 0 => by simp [symsOf]
  | p :: one, h, a + 1 => by
    have ih := syms_take one (fun q hq => h q (by simp [hq])) a
    obtain ⟨x, hx⟩ := List.length_eq_one_iff.1 (h p (by simp))
    unfold symsOf at ih ⊢
    rw [List.take_succ_cons, List.flatMap_cons, List.flatMap_cons, hx, ih]
    rfl
theorem syms_at : ∀ (one : List AP), (∀ p ∈ one, p.2.length = 1) → ∀ (q : Nat) (p : AP), one[q]? = some p → ∀ s, p.2 = [s] → (symsOf one)[q]? = some s
  | [], _, q, p, h, s, _ => by simp at h
  | r :: one, h, 0, p, hq, s, hs => by
    simp only [List.getElem?_cons_zero, Option.some.injEq] at hq
    subst hq
    simp [symsOf, hs]
  | r :: one, h, q + 1, p, hq, s, hs => by
    obtain ⟨x, hx⟩ := List.length_eq_one_iff.1 (h r (by simp))
    have ih := syms_at one (fun q hq => h q (by simp [hq])) q p (by simpa using hq) s hs
    unfold symsOf at ih ⊢
    rw [List.flatMap_cons, hx]
    simpa using ih
theorem cnt_none {S : List Int} {s : Nat} (h : ∀ z ∈ S, z ≠ (s : Int)) : cnt S s = 0 := by
  unfold cnt
  rw [List.length_eq_zero_iff, List.filter_eq_nil_iff]
  intro z hz
  simpa using h z hz
theorem cnt_cons (z : Int) (S : List Int) (s : Nat) : cnt (z :: S) s = (if z = (s : Int) then 1 else 0) + cnt S s := by
  unfold cnt
  by_cases h : z = (s : Int)
  · rw [List.filter_cons_of_pos (by simpa using h), if_pos h, List.length_cons]; omega
  · rw [List.filter_cons_of_neg (by simpa using h), if_neg h]; omega
theorem cnt_append (A B : List Int) (s : Nat) : cnt (A ++ B) s = cnt A s + cnt B s := by simp [cnt]
theorem cnt_perm {A B : List Int} (h : A.Perm B) (s : Nat) : cnt A s = cnt B s := (h.filter _).length_eq
theorem cnt_take1 : ∀ (S : List Int) (q s a : Nat), S.Nodup → S[q]? = some (s : Int) → cnt (S.take a) s = if q < a then 1 else 0
  | [], q, s, a, _, h => by simp at h
  | z :: S, q, s, 0, _, _ => by simp [cnt]
  | z :: S, 0, s, a + 1, hn, h => by
    have hn' := List.nodup_cons.1 hn
    simp only [List.getElem?_cons_zero, Option.some.injEq] at h
    subst h
    rw [List.take_succ_cons, cnt_cons, if_pos rfl, if_pos (by omega), cnt_none (fun y hy e => hn'.1 (by rw [← e]; exact List.mem_of_mem_take hy))]
  | z :: S, q + 1, s, a + 1, hn, h => by
    have hn' := List.nodup_cons.1 hn
    have hq : S[q]? = some (s : Int) := by simpa using h
    rw [List.take_succ_cons, cnt_cons, if_neg (fun e => hn'.1 (by rw [e]; exact List.mem_of_getElem? hq)), cnt_take1 S q s a hn'.2 hq]
    by_cases hlt : q < a
    · rw [if_pos hlt, if_pos (by omega)]
    · rw [if_neg hlt, if_neg (by omega)]
theorem cnt_flat {S : List Int} (hn : S.Nodup) {q s : Nat} (h : S[q]? = some (s : Int)) : ∀ ts : List Nat, cnt (ts.flatMap fun a => S.take a) s = over ts q
  | [] => rfl
  | a :: ts => by rw [List.flatMap_cons, cnt_append, cnt_flat hn h ts, cnt_take1 S q s a hn h, over_cons]
/-- Sums. -/
theorem sum_filter {α : Type} (p : α → Bool) (h : α → Int) : ∀ R : List α, (R.map fun s => if p s then h s else 0).sum = ((R.filter p).map h).sum
  | [] => rfl
  | s :: R => by
    by_cases hp : p s = true
    · rw [List.filter_cons_of_pos hp, List.map_cons, List.map_cons, List.sum_cons, List.sum_cons, if_pos hp, sum_filter p h R]
    · rw [List.filter_cons_of_neg hp, List.map_cons, List.sum_cons, if_neg hp, sum_filter p h R]; omega
theorem sum_pick (f : Nat → Int) (z : Int) : ∀ N : Nat, 0 ≤ z → z < N → ((List.range N).map fun s : Nat => if z = (s : Int) then f s else 0).sum = f z.toNat
  | 0, h1, h2 => by omega
  | N + 1, h1, h2 => by
    rw [List.range_succ, List.map_append, List.sum_append]
    simp only [List.map_cons, List.map_nil, List.sum_cons, List.sum_nil]
    by_cases h : z = (N : Int)
    · have e : ((List.range N).map fun s : Nat => if z = (s : Int) then f s else 0).sum = 0 := by
        have : (List.range N).map (fun s : Nat => if z = (s : Int) then f s else 0) = (List.range N).map (fun _ => 0) := by
          apply List.map_congr_left
          intro s hs
          have : s < N := by simpa using hs
          rw [if_neg (by omega)]
        rw [this]
        clear this h2 h
        induction N with
        | zero => rfl
        | succ N ih => rw [List.range_succ, List.map_append, List.sum_append, ih]; rfl
      rw [e, if_pos h, h]
      simp
    · rw [if_neg h, sum_pick f z N h1 (by omega)]; omega
theorem sum_add (f g : Nat → Int) : ∀ R : List Nat, (R.map fun s => f s + g s).sum = (R.map f).sum + (R.map g).sum
  | [] => rfl
  | s :: R => by simp only [List.map_cons, List.sum_cons, sum_add f g R]; omega
theorem sum_zero (R : List Nat) : (R.map fun _ => (0 : Int)).sum = 0 := by
  induction R with
  | nil => rfl
  | cons s R ih => simp only [List.map_cons, List.sum_cons, ih]; rfl
/-- Weights times how often each symbol stands in a row: the weights of the row's symbols. -/
theorem sum_cnt (l : List Int) (N : Nat) : ∀ Z : List Int, (∀ z ∈ Z, 0 ≤ z ∧ z < N) → ((List.range N).map fun s : Nat => l.getD s 0 * (cnt Z s : Int)).sum = (Z.map fun z => l.getD z.toNat 0).sum
  | [], _ => by
    have : (List.range N).map (fun s : Nat => l.getD s 0 * (cnt [] s : Int)) = (List.range N).map (fun _ => 0) := by
      apply List.map_congr_left
      intro s _
      simp [cnt]
    rw [this, sum_zero]; rfl
  | z :: Z, h => by
    have hz := h z (by simp)
    have ih := sum_cnt l N Z (fun y hy => h y (by simp [hy]))
    rw [List.map_cons, List.sum_cons, ← ih, ← sum_pick (fun s => l.getD s 0) z N hz.1 hz.2, ← sum_add]
    congr 1
    apply List.map_congr_left
    intro s _
    rw [cnt_cons]
    by_cases e : z = (s : Int)
    · rw [if_pos e, if_pos e]; push_cast; rw [Int.mul_add, Int.mul_one]
    · rw [if_neg e, if_neg e]; simp

/-- A pack weighs what its symbols weigh. -/
def Wt (l : List Int) (p : AP) : Prop := p.1 = (p.2.map fun z => l.getD z.toNat 0).sum
theorem wt_pairs {l : List Int} : ∀ (r : List AP), (∀ p ∈ r, Wt l p) → ∀ p ∈ pairsOf r, Wt l p
  | [], _, p, hp => by simp [pairsOf] at hp
  | [a], _, p, hp => by simp [pairsOf] at hp
  | a :: b :: r, h, p, hp => by
    simp only [pairsOf, List.mem_cons] at hp
    rcases hp with rfl | hp
    · have h1 := h a (by simp)
      have h2 := h b (by simp)
      unfold Wt at h1 h2 ⊢
      simp only [List.map_append, List.sum_append]
      omega
    · exact wt_pairs r (fun q hq => h q (by simp [hq])) p hp
theorem wt_row {l : List Int} {one : List AP} (h : ∀ p ∈ one, Wt l p) : ∀ k, ∀ p ∈ rowAt one k, Wt l p
  | 0 => h
  | k + 1 => fun p hp => by
    rcases List.mem_append.1 (((stSort_steq _).mem p).2 hp) with h1 | h1
    · exact h p h1
    · exact wt_pairs _ (wt_row h k) p h1
theorem wt_sum {l : List Int} : ∀ (r : List AP), (∀ p ∈ r, Wt l p) → wsum r = ((symsOf r).map fun z => l.getD z.toNat 0).sum
  | [], _ => rfl
  | p :: r, h => by
    have ih := wt_sum r (fun q hq => h q (by simp [hq]))
    have h1 := h p (by simp)
    unfold Wt at h1
    unfold wsum symsOf at ih ⊢
    rw [List.map_cons, List.sum_cons, List.flatMap_cons, List.map_append, List.sum_append, ih, h1]
theorem wt_ones (l : List Int) : ∀ p ∈ onesOf l, Wt l p := fun p hp => by
  obtain ⟨i, h1, h2, rfl⟩ := ones_is l hp
  simp [Wt]

/-- What is known of the lengths of two weights or more. -/
structure LenFacts (l : List Int) (ms : Nat) (T : List Nat) (one : List AP) : Prop where
  len : T.length = ms
  at_ : ∀ (q s : Nat), (symsOf one)[q]? = some (s : Int) → cnt (symsOf ((rowAt one (ms - 1)).take (2 * one.length - 2))) s = over T q
  off : ∀ s : Nat, (s : Int) ∉ symsOf one → cnt (symsOf ((rowAt one (ms - 1)).take (2 * one.length - 2))) s = 0
  pos : ∀ q, q < one.length → 1 ≤ over T q
  kraft : ((List.range one.length).map fun i => 2 ^ (ms - over T i)).sum = 2 ^ ms
theorem len_facts (l : List Int) (ms : Nat) (hms : 1 ≤ ms) (hf : l.all fairF = true) (h2 : 2 ≤ (onesOf l).length) (hN : (onesOf l).length ≤ 2 ^ ms) : ∃ T, LenFacts l ms T (stSort (onesOf l)) := by
  obtain ⟨o1, o2, o3, o4⟩ := ones_facts l hf
  have hlen : (stSort (onesOf l)).length = (onesOf l).length := stSort_len _
  have hmem : ∀ p, p ∈ stSort (onesOf l) → p ∈ onesOf l := fun p hp => ((stSort_steq _).mem p).2 hp
  have hpos : PosS (stSort (onesOf l)) := fun p hp => by
    obtain ⟨i, h1, h2, rfl⟩ := ones_is l (hmem p hp)
    exact h2
  have hone : ∀ p ∈ stSort (onesOf l), p.2.length = 1 := fun p hp => (o3 p (hmem p hp)).2
  have hsrt := stSort_srt (onesOf l)
  have hnd : (symsOf (stSort (onesOf l))).Nodup := (syms_perm (stSort_steq (onesOf l)).1).nodup_iff.1 (ones_nodup l)
  generalize stSort (onesOf l) = one at *
  have hp2 : 2 * one.length - 2 ≤ (rowAt one (ms - 1)).length := by
    have := rowAt_last one ms (by omega) (ms - 1) (by omega)
    rw [show ms - (ms - 1) = 1 from by omega] at this
    omega
  obtain ⟨a, ts, g1, g2, g3, g4, g5, g6, g7⟩ := pack_rows hsrt hpos (ms - 1) (2 * one.length - 2) hp2
  have hfl : ((a :: ts).flatMap fun a => symsOf (one.take a)) = (a :: ts).flatMap fun a => (symsOf one).take a := by
    congr 1
    funext b
    exact syms_take one hone b
  have hw : width (a :: ts) = (one.length - 1) * 2 ^ (a :: ts).length := by
    rw [g5, List.length_cons, g1, show 2 * one.length - 2 = (one.length - 1) * 2 from by omega, Nat.mul_assoc, Nat.pow_succ, Nat.mul_comm 2]
  have hT : (a :: ts).length = ms := by rw [List.length_cons, g1]; omega
  refine ⟨a :: ts, hT, fun q s hq => ?_, fun s hs => ?_, fun q hq => ?_, ?_⟩
  · rw [cnt_perm g7, hfl]
    exact cnt_flat hnd hq _
  · rw [cnt_perm g7, hfl]
    refine cnt_none (fun z hz e => hs ?_)
    obtain ⟨b, _, hb⟩ := List.mem_flatMap.1 hz
    rw [← e]
    exact List.mem_of_mem_take hb
  · have := width_full g3 (by omega) hw g2
    rw [over_cons, if_pos (by omega)]
    omega
  · have := width_kraft (ts := a :: ts) (n := one.length) (List.pairwise_cons.2 ⟨g3, g4⟩) (fun b hb => by
      rcases List.mem_cons.1 hb with rfl | hb
      · exact g2
      · exact Nat.le_trans (g3 b hb) g2) (by omega) hw
    rw [hT] at this
    exact this

theorem lens_len (l : List Int) (ms : Nat) : (lengthsOf l ms).length = l.length := by
  unfold lengthsOf
  split
  · simp
  · split <;> simp
theorem sym_of_ones {l : List Int} {s : Nat} (hs : s < l.length) (h : 0 < l.getD s 0) : (s : Int) ∈ symsOf (stSort (onesOf l)) := by
  refine (syms_perm (stSort_steq (onesOf l)).1).mem_iff.1 ?_
  rw [ones_syms]
  exact List.mem_map.2 ⟨s, List.mem_filter.2 ⟨by simpa using hs, by simpa using h⟩, rfl⟩
theorem sym_not_ones {l : List Int} {s : Nat} (h : ¬ 0 < l.getD s 0) : (s : Int) ∉ symsOf (stSort (onesOf l)) := by
  intro hm
  have := (syms_perm (stSort_steq (onesOf l)).1).mem_iff.2 hm
  rw [ones_syms] at this
  obtain ⟨j, hj, e⟩ := List.mem_map.1 this
  have e' : (j : Int) = (s : Int) := e
  obtain rfl : j = s := by omega
  exact h (by simpa using (List.mem_filter.1 hj).2)
theorem syms_len (l : List Int) (hf : l.all fairF = true) : (symsOf (stSort (onesOf l))).length = (stSort (onesOf l)).length := by
  rw [symsOf_len, ssum_sort, stSort_len]
  exact (wsum_bd (onesOf l) (fun p hp => (ones_facts l hf).2.2.1 p hp)).2
theorem lens_at {l : List Int} {ms : Nat} (h2 : 2 ≤ (onesOf l).length) {s : Nat} (hs : s < l.length) : (lengthsOf l ms).getD s 0 = cnt (symsOf ((rowAt (stSort (onesOf l)) (ms - 1)).take (2 * (stSort (onesOf l)).length - 2))) s := by
  unfold lengthsOf
  rw [if_neg (by omega), if_neg (by omega), stSort_len]
  simp [hs]
theorem pow_scale (ms k : Nat) (h1 : ms ≤ 15) (h2 : k ≤ ms) : (2 : Int) ^ (15 - (k : Int)).toNat = 2 ^ (15 - ms) * ((2 ^ (ms - k) : Nat) : Int) := by
  rw [show (15 - (k : Int)).toNat = (15 - ms) + (ms - k) from by omega, Int.pow_add]
  push_cast
  rfl
theorem sum_scale (c : Int) (f : Nat → Nat) : ∀ R : List Nat, (R.map fun i => c * (f i : Int)).sum = c * ((R.map f).sum : Nat)
  | [] => by simp
  | i :: R => by
    simp only [List.map_cons, List.sum_cons, sum_scale c f R]
    push_cast
    rw [Int.mul_add]
theorem map_places {S : List Int} (f : Int → Int) (g : Nat → Int) (h : ∀ q z, S[q]? = some z → f z = g q) : S.map f = (List.range S.length).map g := by
  apply List.ext_getElem?
  intro q
  rw [List.getElem?_map, List.getElem?_map]
  by_cases hq : q < S.length
  · rw [List.getElem?_eq_getElem hq, List.getElem?_range hq]
    exact congrArg some (h q _ (List.getElem?_eq_getElem hq))
  · rw [List.getElem?_eq_none (by omega), List.getElem?_eq_none (by simp; omega)]; rfl
/-- Two weights or more: the lengths fill all codes. -/
theorem lens_kraft {l : List Int} {ms : Nat} {T : List Nat} (hf : l.all fairF = true) (h2 : 2 ≤ (onesOf l).length) (hm15 : ms ≤ 15) (H : LenFacts l ms T (stSort (onesOf l))) : kraft (lengthsOf l ms) = 32768 := by
  have hZ : lengthsOf l ms = (List.range l.length).map fun s => ((lengthsOf l ms).getD s 0) := by
    apply List.ext_getElem?
    intro i
    rw [List.getElem?_map]
    by_cases hi : i < l.length
    · rw [List.getElem?_range hi]
      have hi' : i < (lengthsOf l ms).length := by rw [lens_len]; exact hi
      simp [hi']
    · rw [List.getElem?_eq_none (by rw [lens_len]; omega), List.getElem?_eq_none (by simp; omega)]; rfl
  unfold Go.Proofs.YtlhaehefhhcgaaaDoor.kraft
  rw [hZ, List.map_map]
  have hsl := syms_len l hf
  have e1 : (List.range l.length).map ((fun z : Int => if 0 < z then (2 : Int) ^ (15 - z).toNat else 0) ∘ fun s => (lengthsOf l ms).getD s 0)
      = (List.range l.length).map fun s : Nat => if decide (0 < l.getD s 0) then (2 : Int) ^ (15 - (lengthsOf l ms).getD s 0).toNat else 0 := by
    apply List.map_congr_left
    intro s hs
    have hs' : s < l.length := by simpa using hs
    simp only [Function.comp]
    by_cases hp : 0 < l.getD s 0
    · obtain ⟨q, hq, he⟩ := List.getElem_of_mem (sym_of_ones hs' hp)
      have hq' : (symsOf (stSort (onesOf l)))[q]? = some (s : Int) := by rw [List.getElem?_eq_getElem hq, he]
      have h3 := H.at_ q s hq'
      have h4 := H.pos q (by omega)
      rw [if_pos (by rw [lens_at h2 hs']; omega), if_pos (by simpa using hp)]
    · have h3 := H.off s (sym_not_ones hp)
      rw [if_neg (by rw [lens_at h2 hs', h3]; omega), if_neg (by simpa using hp)]
  rw [e1, sum_filter (fun s : Nat => decide (0 < l.getD s 0)) (fun s : Nat => (2 : Int) ^ (15 - (lengthsOf l ms).getD s 0).toNat)]
  have e2 : ((List.range l.length).filter fun s : Nat => decide (0 < l.getD s 0)).map (fun s : Nat => (2 : Int) ^ (15 - (lengthsOf l ms).getD s 0).toNat)
      = (symsOf (onesOf l)).map fun z : Int => (2 : Int) ^ (15 - (lengthsOf l ms).getD z.toNat 0).toNat := by
    rw [ones_syms, List.map_map]
    rfl
  rw [e2, perm_sum ((syms_perm (stSort_steq (onesOf l)).1).map _)]
  rw [map_places (S := symsOf (stSort (onesOf l))) _ (fun q => 2 ^ (15 - ms) * ((2 ^ (ms - over T q) : Nat) : Int)) (fun q z hz => ?_), sum_scale, hsl, H.kraft]
  · push_cast
    rw [← Int.pow_add, show 15 - ms + ms = 15 from by omega]
    rfl
  · have hz2 := (syms_perm (stSort_steq (onesOf l)).1).mem_iff.2 (List.mem_of_getElem? hz)
    rw [ones_syms] at hz2
    obtain ⟨s, hs, rfl⟩ := List.mem_map.1 hz2
    have hs' : s < l.length := by simpa using (List.mem_filter.1 hs).1
    have h3 := H.at_ q s hz
    have h4 : over T q ≤ ms := by rw [← H.len]; exact over_le T q
    rw [Int.toNat_natCast, lens_at h2 hs', h3]
    exact pow_scale ms (over T q) hm15 h4
end Go.Proofs.YtlhaehefhhcgaaaDoor
namespace Go.Proofs.YtlhaehefhhcgaaaDoor
set_option linter.unusedVariables false
set_option linter.unusedSimpArgs false

theorem lenOk_parts {l : List Int} {most : Int} (h : lengthsOk l most = true) : l.length ≤ 288 ∧ 1 ≤ most ∧ most ≤ 15 ∧ l.all fairF = true ∧ (onesOf l).length ≤ 2 ^ most.toNat := by
  unfold lengthsOk at h
  simp only [Bool.and_eq_true, decide_eq_true_eq] at h
  exact ⟨h.1.1.1.1, h.1.1.1.2, h.1.1.2, h.1.2, h.2⟩
theorem fair_at {l : List Int} (h : l.all fairF = true) {s : Nat} (hs : s < l.length) : 0 ≤ l.getD s 0 ∧ l.getD s 0 ≤ 1048576 := by
  have := List.all_eq_true.1 h (l.getD s 0) (by simp [hs])
  unfold fairF at this
  simpa using this
theorem one_pos {l : List Int} {s : Nat} (hs : s < l.length) (h : 0 < l.getD s 0) : (s : Int) ∈ symsOf (onesOf l) := (syms_perm (stSort_steq (onesOf l)).1).mem_iff.2 (sym_of_ones hs h)
/-- Each length, and when it is nought. -/
theorem lens_each {l : List Int} {most : Int} (h : lengthsOk l most = true) {s : Nat} (hs : s < l.length) :
    0 ≤ (lengthsOf l most.toNat).getD s 0 ∧ (lengthsOf l most.toNat).getD s 0 ≤ most ∧ ((lengthsOf l most.toNat).getD s 0 = 0 ↔ l.getD s 0 = 0) := by
  obtain ⟨h1, h2, h3, h4, h5⟩ := lenOk_parts h
  have hf := fair_at h4 hs
  by_cases n0 : (onesOf l).length = 0
  · have e : (lengthsOf l most.toNat).getD s 0 = 0 := by unfold lengthsOf; rw [if_pos n0]; simp [hs]
    rw [e]
    refine ⟨Int.le_refl _, by omega, fun _ => ?_, fun _ => rfl⟩
    by_cases hp : 0 < l.getD s 0
    · have := one_pos hs hp
      rw [List.eq_nil_of_length_eq_zero n0] at this
      simp [symsOf] at this
    · omega
  · by_cases n1 : (onesOf l).length = 1
    · have e : (lengthsOf l most.toNat).getD s 0 = cnt (symsOf (onesOf l)) s := by unfold lengthsOf; rw [if_neg n0, if_pos n1]; simp [hs]
      rw [e]
      by_cases hp : 0 < l.getD s 0
      · have hm := one_pos hs hp
        obtain ⟨q, hq, he⟩ := List.getElem_of_mem hm
        have hc := cnt_take1 (symsOf (onesOf l)) q s (symsOf (onesOf l)).length (ones_nodup l) (by rw [List.getElem?_eq_getElem hq, he])
        rw [List.take_length, if_pos hq] at hc
        rw [hc]
        exact ⟨by omega, by omega, fun h => by omega, fun h => by omega⟩
      · have hc := cnt_none (S := symsOf (onesOf l)) (s := s) (fun z hz e => by
          rw [e] at hz
          exact sym_not_ones hp ((syms_perm (stSort_steq (onesOf l)).1).mem_iff.1 hz))
        rw [hc]
        exact ⟨by omega, by omega, fun _ => by omega, fun _ => rfl⟩
    · obtain ⟨T, H⟩ := len_facts l most.toNat (by omega) h4 (by omega) h5
      rw [lens_at (by omega) hs]
      by_cases hp : 0 < l.getD s 0
      · obtain ⟨q, hq, he⟩ := List.getElem_of_mem (sym_of_ones hs hp)
        have h6 := H.at_ q s (by rw [List.getElem?_eq_getElem hq, he])
        have h7 := H.pos q (by rw [← syms_len l h4]; exact hq)
        have h8 : over T q ≤ most.toNat := by rw [← H.len]; exact over_le T q
        rw [h6]
        exact ⟨by omega, by omega, fun h => by omega, fun h => by omega⟩
      · have h6 := H.off s (sym_not_ones hp)
        rw [h6]
        exact ⟨by omega, by omega, fun _ => by omega, fun _ => rfl⟩
theorem lastOne_all : ∀ (zs : List Int), (∀ z ∈ zs, 0 < z → z = 1) → ∀ b, (b = true ∨ ∃ z ∈ zs, 0 < z) → zs.foldl (fun b z => if 0 < z then z == 1 else b) b = true
  | [], _, b, h => by
    rcases h with h | ⟨z, hz, _⟩
    · exact h
    · simp at hz
  | z :: zs, h, b, hb => by
    rw [List.foldl_cons]
    apply lastOne_all zs (fun y hy => h y (by simp [hy]))
    by_cases hz : 0 < z
    · left
      rw [if_pos hz, h z (by simp) hz]
      rfl
    · rw [if_neg hz]
      rcases hb with hb | ⟨y, hy, hp⟩
      · exact .inl hb
      · rcases List.mem_cons.1 hy with rfl | hy
        · exact absurd hp hz
        · exact .inr ⟨y, hy, hp⟩
theorem posn_cnt1 (S : List Int) (s0 : Nat) : ∀ N : Nat, posn ((List.range N).map fun s : Nat => (cnt [(s0 : Int)] s : Int)) = if s0 < N then 1 else 0
  | 0 => by simp [posn]
  | N + 1 => by
    rw [List.range_succ, List.map_append, List.map_cons, List.map_nil, posn_snoc, posn_cnt1 S s0 N, cnt_cons]
    have e : cnt [] N = 0 := rfl
    rw [e]
    by_cases h : (s0 : Int) = (N : Int)
    · have hN : s0 = N := by omega
      subst hN
      simp
    · rw [if_neg h]
      by_cases h2 : s0 < N
      · rw [if_pos h2, if_pos (show s0 < N + 1 by omega)]; simp
      · rw [if_neg h2, if_neg (show ¬ s0 < N + 1 by omega)]; simp
/-- They make a code. -/
theorem lens_makes {l : List Int} {most : Int} (h : lengthsOk l most = true) : makesOf (lengthsOf l most.toNat) = true := by
  obtain ⟨h1, h2, h3, h4, h5⟩ := lenOk_parts h
  have hlen := lens_len l most.toNat
  have hall : (lengthsOf l most.toNat).all okLen = true := by
    rw [List.all_eq_true]
    intro z hz
    obtain ⟨s, hs, rfl⟩ := List.getElem_of_mem hz
    have := lens_each h (s := s) (by omega)
    rw [show (lengthsOf l most.toNat).getD s 0 = (lengthsOf l most.toNat)[s] from by simp [hs]] at this
    unfold okLen
    simp; omega
  unfold makesOf
  rw [hall, show decide ((lengthsOf l most.toNat).length ≤ 288) = true from by simp; omega, Bool.true_and, Bool.true_and]
  by_cases n0 : (onesOf l).length = 0
  · have e : posn (lengthsOf l most.toNat) = 0 := by
      unfold lengthsOf; rw [if_pos n0]; unfold posn
      rw [List.length_eq_zero_iff, List.filter_eq_nil_iff]
      intro z hz
      rw [List.eq_of_mem_replicate hz]; simp
    rw [e]; rfl
  · by_cases n1 : (onesOf l).length = 1
    · obtain ⟨p, hp⟩ := List.length_eq_one_iff.1 n1
      obtain ⟨s0, hs1, hs2, rfl⟩ := ones_is l (p := p) (by rw [hp]; simp)
      have e0 : lengthsOf l most.toNat = (List.range l.length).map fun s : Nat => (cnt [(s0 : Int)] s : Int) := by
        unfold lengthsOf; rw [if_neg n0, if_pos n1, hp]; rfl
      rw [e0, posn_cnt1 [] s0 l.length, if_pos hs1]
      have e1 : lastOne ((List.range l.length).map fun s : Nat => (cnt [(s0 : Int)] s : Int)) = true := by
        refine lastOne_all _ (fun z hz hp => ?_) false (.inr ⟨1, List.mem_map.2 ⟨s0, by simpa using hs1, by rw [cnt_cons, if_pos rfl]; rfl⟩, by omega⟩)
        obtain ⟨s, _, rfl⟩ := List.mem_map.1 hz
        rw [cnt_cons] at hp ⊢
        have e : cnt [] s = 0 := rfl
        rw [e] at hp ⊢
        split <;> simp_all
      rw [e1]
      simp
    · obtain ⟨T, H⟩ := len_facts l most.toNat (by omega) h4 (by omega) h5
      rw [lens_kraft h4 (by omega) (by omega) H]
      simp
/-- What weights and lengths cost. -/
def costOf (l zs : List Int) : Int := ((List.range l.length).map fun s : Nat => l.getD s 0 * zs.getD s 0).sum
/-- The weights of the packs that are taken. -/
def leastOf (l : List Int) (ms : Nat) : Int :=
  if (onesOf l).length < 2 then wsum (onesOf l) else wsum ((rowAt (stSort (onesOf l)) (ms - 1)).take (2 * (onesOf l).length - 2))
theorem lens_cost {l : List Int} {most : Int} (h : lengthsOk l most = true) : costOf l (lengthsOf l most.toNat) = leastOf l most.toNat := by
  obtain ⟨h1, h2, h3, h4, h5⟩ := lenOk_parts h
  obtain ⟨o1, o2, o3, o4⟩ := ones_facts l h4
  unfold costOf leastOf
  by_cases n2 : (onesOf l).length < 2
  · rw [if_pos n2]
    have e : ∀ s : Nat, s < l.length → (lengthsOf l most.toNat).getD s 0 = (cnt (symsOf (onesOf l)) s : Int) := by
      intro s hs
      by_cases n0 : (onesOf l).length = 0
      · unfold lengthsOf
        rw [if_pos n0, List.eq_nil_of_length_eq_zero n0]
        simp [hs, symsOf, cnt]
      · unfold lengthsOf
        rw [if_neg n0, if_pos (by omega)]
        simp [hs]
    have e2 : (List.range l.length).map (fun s : Nat => l.getD s 0 * (lengthsOf l most.toNat).getD s 0) = (List.range l.length).map (fun s : Nat => l.getD s 0 * (cnt (symsOf (onesOf l)) s : Int)) := by
      apply List.map_congr_left
      intro s hs
      rw [e s (by simpa using hs)]
    rw [e2, sum_cnt l l.length (symsOf (onesOf l)) (fun z hz => by
      obtain ⟨p, hp, hz'⟩ := List.mem_flatMap.1 hz
      exact o2 p hp z hz'), wt_sum _ (wt_ones l)]
  · rw [if_neg n2]
    have e2 : (List.range l.length).map (fun s : Nat => l.getD s 0 * (lengthsOf l most.toNat).getD s 0) = (List.range l.length).map (fun s : Nat => l.getD s 0 * (cnt (symsOf ((rowAt (stSort (onesOf l)) (most.toNat - 1)).take (2 * (onesOf l).length - 2))) s : Int)) := by
      apply List.map_congr_left
      intro s hs
      rw [lens_at (by omega) (by simpa using hs), stSort_len]
    rw [e2, sum_cnt l l.length _ (fun z hz => by
      obtain ⟨p, hp, hz'⟩ := List.mem_flatMap.1 hz
      exact within_row (within_sort o2) _ p (List.mem_of_mem_take hp) z hz'), wt_sum _ (fun p hp => wt_row (fun q hq => wt_ones l q (((stSort_steq _).mem q).2 hq)) _ p (List.mem_of_mem_take hp))]
/-- A heavier symbol has no longer code. -/
theorem lens_falls {l : List Int} {most : Int} (h : lengthsOk l most = true) {i j : Nat} (hi : i < l.length) (hj : j < l.length) (hp : 0 < l.getD j 0) (hlt : l.getD j 0 < l.getD i 0) :
    (lengthsOf l most.toNat).getD i 0 ≤ (lengthsOf l most.toNat).getD j 0 := by
  obtain ⟨h1, h2, h3, h4, h5⟩ := lenOk_parts h
  have hone : ∀ p ∈ stSort (onesOf l), p.2.length = 1 := fun p hp => ((ones_facts l h4).2.2.1 p (((stSort_steq _).mem p).2 hp)).2
  have key : ∀ s : Nat, s < l.length → 0 < l.getD s 0 → ∃ q : Nat, (stSort (onesOf l))[q]? = some (l.getD s 0, [(s : Int)]) := by
    intro s hs hp
    have hm : (l.getD s 0, [(s : Int)]) ∈ onesOf l := by
      unfold onesOf
      exact List.mem_filterMap.2 ⟨s, by simpa using hs, by rw [if_pos hp]⟩
    obtain ⟨q, hq, he⟩ := List.getElem_of_mem (((stSort_steq (onesOf l)).mem _).1 hm)
    exact ⟨q, by rw [List.getElem?_eq_getElem hq, he]⟩
  obtain ⟨qi, hqi⟩ := key i hi (by omega)
  obtain ⟨qj, hqj⟩ := key j hj hp
  have hij : i ≠ j := by rintro rfl; omega
  have hle : qj ≤ qi := by
    rcases Nat.lt_or_ge qi qj with hlt2 | hge
    · obtain ⟨a1, a2⟩ := List.getElem?_eq_some_iff.1 hqi
      obtain ⟨b1, b2⟩ := List.getElem?_eq_some_iff.1 hqj
      have := List.pairwise_iff_getElem.1 (stSort_srt (onesOf l)) qi qj a1 b1 hlt2
      rw [a2, b2] at this
      simp only at this
      omega
    · exact hge
  have n2 : 2 ≤ (onesOf l).length := by
    have hne : qi ≠ qj := by
      rintro rfl
      rw [hqi] at hqj
      injection hqj with hqj
      injection hqj with e1 e2
      omega
    obtain ⟨a1, _⟩ := List.getElem?_eq_some_iff.1 hqi
    obtain ⟨b1, _⟩ := List.getElem?_eq_some_iff.1 hqj
    rw [stSort_len] at a1 b1
    omega
  obtain ⟨T, H⟩ := len_facts l most.toNat (by omega) h4 n2 h5
  rw [lens_at n2 hi, lens_at n2 hj, H.at_ qi i (syms_at _ hone qi _ hqi _ rfl), H.at_ qj j (syms_at _ hone qj _ hqj _ rfl)]
  have := over_anti (ts := T) hle
  omega
end Go.Proofs.YtlhaehefhhcgaaaDoor
