/-
  Packages that are merged: the lengths make a code; heavier symbols have no longer codes; what they cost.
-/
import Derived.Test.YtacidmamfkfipaaLenPlain
import Derived.Test.YtacidmamfkfipaaRefPlain
namespace Go.Proofs.Ytacidmamfkfipaa
set_option linter.unusedVariables false
set_option linter.unusedSimpArgs false

section
variable {β : Type}
/-- Two rows, merged: the first ones ahead of equal others. -/
def mrg : List (Int × β) → List (Int × β) → List (Int × β)
  | [], v => v
  | x :: u, [] => x :: u
  | x :: u, y :: v => if x.1 ≤ y.1 then x :: mrg u (y :: v) else y :: mrg (x :: u) v
termination_by u v => u.length + v.length
theorem mrg_nil (u : List (Int × β)) : mrg u [] = u := by cases u <;> simp [mrg]
theorem mrg_perm : ∀ (u v : List (Int × β)), (u ++ v).Perm (mrg u v)
  | [], v => by simp [mrg]
  | x :: u, [] => by simp [mrg]
  | x :: u, y :: v => by
    rw [mrg]
    split
    · exact (mrg_perm u (y :: v)).cons x
    · exact List.perm_middle.trans ((mrg_perm (x :: u) v).cons y)
termination_by u v => u.length + v.length
theorem mrg_srt : ∀ (u v : List (Int × β)), Srt u → Srt v → Srt (mrg u v)
  | [], v, _, hv => by simpa [mrg] using hv
  | x :: u, [], hu, _ => by simpa [mrg] using hu
  | x :: u, y :: v, hu, hv => by
    have hu' := List.pairwise_cons.1 hu
    have hv' := List.pairwise_cons.1 hv
    rw [mrg]
    split
    · rename_i h
      refine List.pairwise_cons.2 ⟨fun q hq => ?_, mrg_srt u (y :: v) hu'.2 hv⟩
      rcases List.mem_append.1 ((mrg_perm u (y :: v)).mem_iff.2 hq) with h1 | h1
      · exact hu'.1 q h1
      · rcases List.mem_cons.1 h1 with rfl | h1
        · exact h
        · have := hv'.1 q h1; omega
    · rename_i h
      refine List.pairwise_cons.2 ⟨fun q hq => ?_, mrg_srt (x :: u) v hu hv'.2⟩
      rcases List.mem_append.1 ((mrg_perm (x :: u) v).mem_iff.2 hq) with h1 | h1
      · rcases List.mem_cons.1 h1 with rfl | h1
        · omega
        · have := hu'.1 q h1; omega
      · exact hv'.1 q h1
termination_by u v => u.length + v.length
theorem mrg_steq : ∀ (u v : List (Int × β)), Srt u → Srt v → StEq (u ++ v) (mrg u v)
  | [], v, _, _ => by simpa [mrg] using StEq.refl v
  | x :: u, [], _, _ => by simpa [mrg] using StEq.refl (x :: u)
  | x :: u, y :: v, hu, hv => by
    have hu' := List.pairwise_cons.1 hu
    have hv' := List.pairwise_cons.1 hv
    rw [mrg]
    split
    · exact (StEq.refl [x]).append (mrg_steq u (y :: v) hu'.2 hv)
    · rename_i h
      have h1 := (StEq.ahead y (x :: u) (fun q hq => by
        rcases List.mem_cons.1 hq with rfl | hq
        · omega
        · have := hu'.1 q hq; omega)).append (StEq.refl v)
      have h2 := (StEq.refl [y]).append (mrg_steq (x :: u) v hu hv'.2)
      exact (show StEq (x :: u ++ y :: v) (y :: (x :: u) ++ v) by simpa using h1).trans (by simpa using h2)
termination_by u v => u.length + v.length
theorem stSort_mrg {u v : List (Int × β)} (hu : Srt u) (hv : Srt v) : stSort (u ++ v) = mrg u v := (stSort_of (mrg_srt u v hu hv) (mrg_steq u v hu hv)).symm
/-- The first p of two rows that are merged: a of the one, b of the other; who is left of the first row is above whom the second one gave. -/
theorem mrg_take : ∀ (u v : List (Int × β)) (p : Nat), p ≤ u.length + v.length → Srt u → Srt v →
    ∃ a b, a + b = p ∧ a ≤ u.length ∧ b ≤ v.length ∧ ((mrg u v).take p).Perm (u.take a ++ v.take b) ∧ ∀ x ∈ u.drop a, ∀ y ∈ v.take b, y.1 < x.1
  | u, v, 0, _, _, _ => ⟨0, 0, rfl, Nat.zero_le _, Nat.zero_le _, by simp, by simp⟩
  | [], v, p + 1, hp, _, _ => ⟨0, p + 1, by omega, Nat.zero_le _, by simpa using hp, by simp [mrg], by simp⟩
  | x :: u, [], p + 1, hp, _, _ => ⟨p + 1, 0, by omega, by simpa using hp, Nat.zero_le _, by simp [mrg], by simp⟩
  | x :: u, y :: v, p + 1, hp, hu, hv => by
    have hu' := List.pairwise_cons.1 hu
    have hv' := List.pairwise_cons.1 hv
    rw [mrg]
    simp only [List.length_cons] at hp
    split
    · obtain ⟨a, b, h1, h2, h3, h4, h5⟩ := mrg_take u (y :: v) p (by simp only [List.length_cons]; omega) hu'.2 hv
      exact ⟨a + 1, b, by omega, by simp only [List.length_cons]; omega, h3, by simpa using h4.cons x, by simpa using h5⟩
    · rename_i h
      obtain ⟨a, b, h1, h2, h3, h4, h5⟩ := mrg_take (x :: u) v p (by simp only [List.length_cons]; omega) hu hv'.2
      refine ⟨a, b + 1, by omega, h2, by simp only [List.length_cons]; omega, ?_, fun z hz q hq => ?_⟩
      · rw [List.take_succ_cons, List.take_succ_cons]
        exact (h4.cons y).trans List.perm_middle.symm
      · rw [List.take_succ_cons] at hq
        rcases List.mem_cons.1 hq with rfl | hq
        · rcases List.mem_cons.1 (List.mem_of_mem_drop hz) with rfl | hz'
          · omega
          · have := hu'.1 z hz'; omega
        · exact h5 z hz q hq
termination_by u v => u.length + v.length
end

theorem pairs_mem : ∀ (l : List AP) (q : AP), q ∈ pairsOf l → ∃ c ∈ l, ∃ d ∈ l, q.1 = c.1 + d.1
  | [], q, h => by simp [pairsOf] at h
  | [a], q, h => by simp [pairsOf] at h
  | a :: b :: r, q, h => by
    simp only [pairsOf, List.mem_cons] at h
    rcases h with rfl | h
    · exact ⟨a, by simp, b, by simp, rfl⟩
    · obtain ⟨c, hc, d, hd, e⟩ := pairs_mem r q h
      exact ⟨c, by simp [hc], d, by simp [hd], e⟩
theorem pairs_srt : ∀ (l : List AP), Srt l → Srt (pairsOf l)
  | [], _ => by simp [pairsOf, Srt]
  | [a], _ => by simp [pairsOf, Srt]
  | a :: b :: r, h => by
    have h1 := List.pairwise_cons.1 h
    have h2 := List.pairwise_cons.1 h1.2
    refine List.pairwise_cons.2 ⟨fun q hq => ?_, pairs_srt r h2.2⟩
    obtain ⟨c, hc, d, hd, e⟩ := pairs_mem r q hq
    have k1 := h1.1 c (by simp [hc])
    have k2 := h2.1 d hd
    simp only
    omega
theorem pairs_take : ∀ (b : Nat) (l : List AP), (pairsOf l).take b = pairsOf (l.take (2 * b))
  | 0, l => by simp [pairsOf]
  | b + 1, [] => by simp [pairsOf]
  | b + 1, [a] => by rw [show 2 * (b + 1) = (2 * b + 1) + 1 from by omega]; simp [pairsOf]
  | b + 1, x :: y :: r => by
    rw [show 2 * (b + 1) = 2 * b + 1 + 1 from by omega, List.take_succ_cons, List.take_succ_cons]
    simp only [pairsOf, List.take_succ_cons]
    rw [pairs_take b r]
theorem pairs_syms : ∀ (l : List AP) (k : Nat), l.length = 2 * k → symsOf (pairsOf l) = symsOf l ∧ wsum (pairsOf l) = wsum l
  | [], _, _ => by simp [pairsOf]
  | [a], k, h => by simp at h; omega
  | a :: b :: r, k, h => by
    obtain ⟨h1, h2⟩ := pairs_syms r (k - 1) (by simp at h; omega)
    simp only [symsOf, wsum] at h1 h2
    constructor
    · simp [pairsOf, symsOf, h1]
    · simp [pairsOf, wsum, h2]; omega
theorem pairs_has : ∀ (l : List AP) (k : Nat) (x : AP), l.length = 2 * k → x ∈ l → ∃ y ∈ pairsOf l, ∃ z ∈ l, y.1 = x.1 + z.1
  | [], _, x, _, h => by simp at h
  | [a], k, x, h, _ => by simp at h; omega
  | a :: b :: r, k, x, h, hx => by
    simp only [List.mem_cons] at hx
    rcases hx with rfl | rfl | hx
    · exact ⟨(x.1 + b.1, x.2 ++ b.2), by simp [pairsOf], b, by simp, rfl⟩
    · exact ⟨(a.1 + x.1, a.2 ++ x.2), by simp [pairsOf], a, by simp, by simp only; omega⟩
    · obtain ⟨y, hy, z, hz, e⟩ := pairs_has r (k - 1) x (by simp at h; omega) hx
      exact ⟨y, by simp [pairsOf, hy], z, by simp [hz], e⟩
def PosS (l : List AP) : Prop := ∀ p ∈ l, 0 < p.1
theorem posS_row {one : List AP} (h : PosS one) : ∀ k, PosS (rowAt one k)
  | 0 => h
  | k + 1 => fun p hp => by
    rcases List.mem_append.1 (((stSort_steq _).mem p).2 hp) with h1 | h1
    · exact h p h1
    · obtain ⟨c, hc, d, hd, e⟩ := pairs_mem _ p h1
      have := posS_row h k c hc
      have := posS_row h k d hd
      omega
theorem row_srt {one : List AP} (h : Srt one) : ∀ k, Srt (rowAt one k)
  | 0 => h
  | k + 1 => stSort_srt _

/-- ts: how many singles are taken in each row, the last row first. -/
def width : List Nat → Nat
  | [] => 0
  | a :: ts => a * 2 ^ ts.length + width ts
theorem pack_rows {one : List AP} (hs : Srt one) (hp : PosS one) : ∀ (k p : Nat), p ≤ (rowAt one k).length →
    ∃ a ts, ts.length = k ∧ a ≤ one.length ∧ (∀ b ∈ ts, b ≤ a) ∧ ts.Pairwise (fun x y => y ≤ x) ∧ width (a :: ts) = p * 2 ^ k ∧ (∀ x ∈ one.take a, x ∈ (rowAt one k).take p) ∧
      (symsOf ((rowAt one k).take p)).Perm ((a :: ts).flatMap fun a => symsOf (one.take a))
  | 0, p, hpl => ⟨p, [], rfl, hpl, by simp, .nil, by simp [width], fun x hx => hx, by simp [rowAt]⟩
  | k + 1, p, hpl => by
    have hrk := row_srt hs k
    have hm : rowAt one (k + 1) = mrg one (pairsOf (rowAt one k)) := stSort_mrg hs (pairs_srt _ hrk)
    have hlen := rowAt_len one k
    obtain ⟨a, b, h1, h2, h3, h4, h5⟩ := mrg_take one (pairsOf (rowAt one k)) p (by rw [pairsOf_len]; omega) hs (pairs_srt _ hrk)
    rw [pairsOf_len] at h3
    rw [pairs_take] at h4 h5
    have hl2 : ((rowAt one k).take (2 * b)).length = 2 * b := by rw [List.length_take]; omega
    obtain ⟨a', ts, g1, g2, g3, g4, g5, g6, g7⟩ := pack_rows hs hp k (2 * b) (by omega)
    have hnest : a' ≤ a := by
      rcases Nat.lt_or_ge a a' with hlt | hge
      · have hx : a < one.length := by omega
        have hx1 : one[a] ∈ one.drop a := by rw [List.drop_eq_getElem_cons hx]; exact List.mem_cons_self
        have hx2 : one[a] ∈ one.take a' := by
          rw [List.mem_take_iff_getElem]
          exact ⟨a, by omega, rfl⟩
        obtain ⟨y, hy, z, hz, e⟩ := pairs_has _ b one[a] hl2 (g6 _ hx2)
        have k1 := h5 _ hx1 y hy
        have k2 := posS_row hp k z (List.mem_of_mem_take hz)
        omega
      · exact hge
    refine ⟨a, a' :: ts, by simp [g1], h2, ?_, List.pairwise_cons.2 ⟨g3, g4⟩, ?_, ?_, ?_⟩
    · intro c hc
      rcases List.mem_cons.1 hc with rfl | hc
      · exact hnest
      · exact Nat.le_trans (g3 c hc) hnest
    · rw [width, g5, List.length_cons, g1, ← h1, Nat.add_mul, Nat.pow_succ]
      have : 2 * b * 2 ^ k = b * (2 ^ k * 2) := by rw [Nat.mul_comm 2 b, Nat.mul_assoc, Nat.mul_comm 2]
      omega
    · intro x hx
      rw [hm]
      exact h4.mem_iff.2 (List.mem_append_left _ hx)
    · rw [hm, List.flatMap_cons]
      have e1 : (symsOf ((mrg one (pairsOf (rowAt one k))).take p)).Perm (symsOf (one.take a ++ pairsOf ((rowAt one k).take (2 * b)))) := h4.flatMap_right _
      refine e1.trans ?_
      rw [show symsOf (one.take a ++ pairsOf ((rowAt one k).take (2 * b))) = symsOf (one.take a) ++ symsOf (pairsOf ((rowAt one k).take (2 * b))) from by simp [symsOf], (pairs_syms _ b hl2).1]
      exact List.Perm.append_left _ g7

/-- How many of the numbers are above i. -/
def over (ts : List Nat) (i : Nat) : Nat := (ts.filter fun a => decide (i < a)).length
theorem over_cons (a : Nat) (ts : List Nat) (i : Nat) : over (a :: ts) i = (if i < a then 1 else 0) + over ts i := by
  unfold over
  by_cases h : i < a
  · rw [List.filter_cons_of_pos (by simpa using h), if_pos h, List.length_cons]; omega
  · rw [List.filter_cons_of_neg (by simpa using h), if_neg h]; omega
theorem over_le (ts : List Nat) (i : Nat) : over ts i ≤ ts.length := List.length_filter_le _ _
theorem over_anti {ts : List Nat} {i j : Nat} (h : i ≤ j) : over ts j ≤ over ts i := by
  induction ts with
  | nil => simp [over]
  | cons a ts ih =>
    rw [over_cons, over_cons]
    by_cases h1 : j < a
    · rw [if_pos h1, if_pos (by omega)]; omega
    · rw [if_neg h1]; omega
theorem over_zero {ts : List Nat} {i : Nat} (h : ∀ b ∈ ts, b ≤ i) : over ts i = 0 := by
  unfold over
  rw [List.length_eq_zero_iff, List.filter_eq_nil_iff]
  intro b hb
  have := h b hb
  simp; omega
/-- Of numbers that fall: what one place is worth. -/
theorem width_one : ∀ (ts : List Nat) (i : Nat), ts.Pairwise (fun x y => y ≤ x) → width (ts.map fun a => if i < a then 1 else 0) + 2 ^ (ts.length - over ts i) = 2 ^ ts.length
  | [], i, _ => by simp [width, over]
  | a :: ts, i, h => by
    have h' := List.pairwise_cons.1 h
    rw [List.map_cons, width, List.length_map, over_cons]
    by_cases hi : i < a
    · rw [if_pos hi]
      have := width_one ts i h'.2
      rw [show (a :: ts).length - (1 + over ts i) = ts.length - over ts i from by simp only [List.length_cons]; omega, List.length_cons, Nat.pow_succ]
      omega
    · rw [if_neg hi]
      have e0 := over_zero (ts := ts) (i := i) (fun b hb => by have := h'.1 b hb; omega)
      have := width_one ts i h'.2
      rw [e0] at this ⊢
      simp only [Nat.sub_zero, Nat.zero_mul, Nat.zero_add, Nat.add_zero] at this ⊢
      rw [List.length_cons, Nat.pow_succ]
      omega
theorem width_add : ∀ (f g : Nat → Nat) (ts : List Nat), width (ts.map fun a => f a + g a) = width (ts.map f) + width (ts.map g)
  | f, g, [] => rfl
  | f, g, a :: ts => by
    simp only [List.map_cons, width, List.length_map, width_add f g ts, Nat.add_mul]
    omega
theorem width_zero (ts : List Nat) : width (ts.map fun _ => 0) = 0 := by
  induction ts with
  | nil => rfl
  | cons a ts ih => simp only [List.map_cons, width, ih]; omega
/-- The numbers, place by place. -/
theorem width_places (ts : List Nat) : ∀ n, width (ts.map fun a => min a n) = ((List.range n).map fun i => width (ts.map fun a => if i < a then 1 else 0)).sum
  | 0 => by simp only [Nat.min_zero, width_zero]; rfl
  | n + 1 => by
    rw [List.range_succ, List.map_append, List.sum_append, ← width_places ts n]
    simp only [List.map_cons, List.map_nil, List.sum_cons, List.sum_nil, Nat.add_zero]
    rw [← width_add]
    congr 1
    apply List.map_congr_left
    intro a _
    by_cases h : n < a
    · rw [if_pos h]; omega
    · rw [if_neg h]; omega
theorem sum_const_sub : ∀ (n M : Nat) (f g : Nat → Nat), (∀ i, f i + g i = M) → ((List.range n).map f).sum + ((List.range n).map g).sum = n * M
  | 0, M, f, g, h => by simp
  | n + 1, M, f, g, h => by
    have := sum_const_sub n M f g h
    have h1 := h n
    rw [List.range_succ, List.map_append, List.sum_append, List.map_append, List.sum_append, Nat.succ_mul]
    simp only [List.map_cons, List.map_nil, List.sum_cons, List.sum_nil, Nat.add_zero]
    omega
theorem width_le : ∀ (ts : List Nat) (m : Nat), (∀ b ∈ ts, b ≤ m) → width ts + m ≤ m * 2 ^ ts.length
  | [], m, _ => by simp [width]
  | a :: ts, m, h => by
    have h1 := width_le ts m (fun b hb => h b (by simp [hb]))
    have h2 := h a (by simp)
    have h3 : a * 2 ^ ts.length ≤ m * 2 ^ ts.length := Nat.mul_le_mul_right _ h2
    rw [width, List.length_cons, Nat.pow_succ, ← Nat.mul_assoc]
    omega
/-- Kraft's sum, of the places: 1, if so many are taken. -/
theorem width_kraft {ts : List Nat} {n : Nat} (hp : ts.Pairwise (fun x y => y ≤ x)) (hn : ∀ b ∈ ts, b ≤ n) (h1 : 1 ≤ n) (hw : width ts = (n - 1) * 2 ^ ts.length) :
    ((List.range n).map fun i => 2 ^ (ts.length - over ts i)).sum = 2 ^ ts.length := by
  have e1 := width_places ts n
  have e2 : ts.map (fun a => min a n) = ts := by
    conv => rhs; rw [← List.map_id ts]
    apply List.map_congr_left
    intro a ha
    have := hn a ha
    simp; omega
  rw [e2] at e1
  have e3 := sum_const_sub n (2 ^ ts.length) (fun i => width (ts.map fun a => if i < a then 1 else 0)) (fun i => 2 ^ (ts.length - over ts i)) (fun i => width_one ts i hp)
  rw [← e1, hw] at e3
  have e4 : n * 2 ^ ts.length = (n - 1) * 2 ^ ts.length + 2 ^ ts.length := by
    conv => lhs; rw [show n = (n - 1) + 1 from by omega]
    rw [Nat.succ_mul]
  omega
/-- .. and then the first number is n. -/
theorem width_full {a : Nat} {ts : List Nat} {n : Nat} (hp : ∀ b ∈ ts, b ≤ a) (h2 : 2 ≤ n) (hw : width (a :: ts) = (n - 1) * 2 ^ (a :: ts).length) (ha : a ≤ n) : a = n := by
  rcases Nat.lt_or_ge a n with hlt | hge
  · have := width_le (a :: ts) (n - 1) (fun b hb => by
      rcases List.mem_cons.1 hb with rfl | hb
      · omega
      · have := hp b hb; omega)
    omega
  · omega
end Go.Proofs.Ytacidmamfkfipaa
