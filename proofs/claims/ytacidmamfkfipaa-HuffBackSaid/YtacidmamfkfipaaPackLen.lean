/-
  The lengths that weights have: they make a code, none above the limit, and what they cost.
-/
import Derived.Test.YtacidmamfkfipaaPackPlain
namespace Go.Proofs.Ytacidmamfkfipaa
set_option linter.unusedVariables false
set_option linter.unusedSimpArgs false

theorem ones_syms_aux (l : List Int) : ∀ R : List Nat, symsOf (R.filterMap fun i => if 0 < l.getD i 0 then some (l.getD i 0, [(i : Int)]) else none) = (R.filter fun i => decide (0 < l.getD i 0)).map fun i : Nat => (i : Int)
  | [] => rfl
  | i :: R => by
    have ih := ones_syms_aux l R
    by_cases h : 0 < l.getD i 0
    · rw [List.filter_cons_of_pos (by simpa using h), List.filterMap_cons_some (b := (l.getD i 0, [(i : Int)])) (by rw [if_pos h]), List.map_cons, ← ih]
      simp [symsOf]
    · rw [List.filter_cons_of_neg (by simpa using h), List.filterMap_cons_none (by rw [if_neg h]), ih]
theorem ones_syms (l : List Int) : symsOf (onesOf l) = ((List.range l.length).filter fun i => decide (0 < l.getD i 0)).map fun i : Nat => (i : Int) := ones_syms_aux l _
theorem ones_is (l : List Int) {p : AP} (h : p ∈ onesOf l) : ∃ i : Nat, i < l.length ∧ 0 < l.getD i 0 ∧ p = (l.getD i 0, [(i : Int)]) := by
  unfold onesOf at h
  obtain ⟨i, hi, he⟩ := List.mem_filterMap.1 h
  by_cases hp : 0 < l.getD i 0
  · rw [if_pos hp] at he
    injection he with he
    exact ⟨i, by simpa using hi, hp, he.symm⟩
  · rw [if_neg hp] at he; cases he
theorem nodup_cast : ∀ (R : List Nat), R.Nodup → (R.map fun i : Nat => (i : Int)).Nodup
  | [], _ => by simp
  | i :: R, h => by
    have h' := List.nodup_cons.1 h
    refine List.nodup_cons.2 ⟨fun hm => ?_, nodup_cast R h'.2⟩
    obtain ⟨j, hj, he⟩ := List.mem_map.1 hm
    have he' : (j : Int) = (i : Int) := he
    exact h'.1 (by rw [show i = j from by omega]; exact hj)
theorem ones_nodup (l : List Int) : (symsOf (onesOf l)).Nodup := by
  rw [ones_syms]
  exact nodup_cast _ (List.Pairwise.filter _ List.nodup_range)
theorem syms_perm {a b : List AP} (h : a.Perm b) : (symsOf a).Perm (symsOf b) := h.flatMap_right _
theorem syms_take : ∀ (one : List AP), (∀ p ∈ one, p.2.length = 1) → ∀ a, symsOf (one.take a) = (symsOf one).take a
  | [], _, a => by simp [symsOf]
  | p :: one, h, 0 => by simp [symsOf]
  | p :: one, h, a + 1 => by
    have ih := syms_take one (fun q hq => h q (by simp [hq])) a
    obtain ⟨x, hx⟩ := List.length_eq_one_iff.1 (h p (by simp))
    unfold symsOf at ih ⊢
    rw [List.take_succ_cons, List.flatMap_cons, List.flatMap_cons, hx, ih]
    rfl
theorem syms_at : ∀ (one : List AP), (∀ p ∈ one, p.2.length = 1) → ∀ (q : Nat) (p : AP), one[q]? = some p → ∀ s, p.2 = [s] → (symsOf one)[q]? = some s
  | [], _, q, p, h, s, _ => by simp at h
  | r :: one, h, 0, p, hq, s, hs => by
    simp only [List.getElem?_cons_zero, Option.some.injEq] at hq
    subst hq
    simp [symsOf, hs]
  | r :: one, h, q + 1, p, hq, s, hs => by
    obtain ⟨x, hx⟩ := List.length_eq_one_iff.1 (h r (by simp))
    have ih := syms_at one (fun q hq => h q (by simp [hq])) q p (by simpa using hq) s hs
    unfold symsOf at ih ⊢
    rw [List.flatMap_cons, hx]
    simpa using ih
theorem cnt_none {S : List Int} {s : Nat} (h : ∀ z ∈ S, z ≠ (s : Int)) : cnt S s = 0 := by
  unfold cnt
  rw [List.length_eq_zero_iff, List.filter_eq_nil_iff]
  intro z hz
  simpa using h z hz
theorem cnt_cons (z : Int) (S : List Int) (s : Nat) : cnt (z :: S) s = (if z = (s : Int) then 1 else 0) + cnt S s := by
  unfold cnt
  by_cases h : z = (s : Int)
  · rw [List.filter_cons_of_pos (by simpa using h), if_pos h, List.length_cons]; omega
  · rw [List.filter_cons_of_neg (by simpa using h), if_neg h]; omega
theorem cnt_append (A B : List Int) (s : Nat) : cnt (A ++ B) s = cnt A s + cnt B s := by simp [cnt]
theorem cnt_perm {A B : List Int} (h : A.Perm B) (s : Nat) : cnt A s = cnt B s := (h.filter _).length_eq
theorem cnt_take1 : ∀ (S : List Int) (q s a : Nat), S.Nodup → S[q]? = some (s : Int) → cnt (S.take a) s = if q < a then 1 else 0
  | [], q, s, a, _, h => by simp at h
  | z :: S, q, s, 0, _, _ => by simp [cnt]
  | z :: S, 0, s, a + 1, hn, h => by
    have hn' := List.nodup_cons.1 hn
    simp only [List.getElem?_cons_zero, Option.some.injEq] at h
    subst h
    rw [List.take_succ_cons, cnt_cons, if_pos rfl, if_pos (by omega), cnt_none (fun y hy e => hn'.1 (by rw [← e]; exact List.mem_of_mem_take hy))]
  | z :: S, q + 1, s, a + 1, hn, h => by
    have hn' := List.nodup_cons.1 hn
    have hq : S[q]? = some (s : Int) := by simpa using h
    rw [List.take_succ_cons, cnt_cons, if_neg (fun e => hn'.1 (by rw [e]; exact List.mem_of_getElem? hq)), cnt_take1 S q s a hn'.2 hq]
    by_cases hlt : q < a
    · rw [if_pos hlt, if_pos (by omega)]
    · rw [if_neg hlt, if_neg (by omega)]
theorem cnt_flat {S : List Int} (hn : S.Nodup) {q s : Nat} (h : S[q]? = some (s : Int)) : ∀ ts : List Nat, cnt (ts.flatMap fun a => S.take a) s = over ts q
  | [] => rfl
  | a :: ts => by rw [List.flatMap_cons, cnt_append, cnt_flat hn h ts, cnt_take1 S q s a hn h, over_cons]
/-- Sums. -/
theorem sum_filter {α : Type} (p : α → Bool) (h : α → Int) : ∀ R : List α, (R.map fun s => if p s then h s else 0).sum = ((R.filter p).map h).sum
  | [] => rfl
  | s :: R => by
    by_cases hp : p s = true
    · rw [List.filter_cons_of_pos hp, List.map_cons, List.map_cons, List.sum_cons, List.sum_cons, if_pos hp, sum_filter p h R]
    · rw [List.filter_cons_of_neg hp, List.map_cons, List.sum_cons, if_neg hp, sum_filter p h R]; omega
theorem sum_pick (f : Nat → Int) (z : Int) : ∀ N : Nat, 0 ≤ z → z < N → ((List.range N).map fun s : Nat => if z = (s : Int) then f s else 0).sum = f z.toNat
  | 0, h1, h2 => by omega
  | N + 1, h1, h2 => by
    rw [List.range_succ, List.map_append, List.sum_append]
    simp only [List.map_cons, List.map_nil, List.sum_cons, List.sum_nil]
    by_cases h : z = (N : Int)
    · have e : ((List.range N).map fun s : Nat => if z = (s : Int) then f s else 0).sum = 0 := by
        have : (List.range N).map (fun s : Nat => if z = (s : Int) then f s else 0) = (List.range N).map (fun _ => 0) := by
          apply List.map_congr_left
          intro s hs
          have : s < N := by simpa using hs
          rw [if_neg (by omega)]
        rw [this]
        clear this h2 h
        induction N with
        | zero => rfl
        | succ N ih => rw [List.range_succ, List.map_append, List.sum_append, ih]; rfl
      rw [e, if_pos h, h]
      simp
    · rw [if_neg h, sum_pick f z N h1 (by omega)]; omega
theorem sum_add (f g : Nat → Int) : ∀ R : List Nat, (R.map fun s => f s + g s).sum = (R.map f).sum + (R.map g).sum
  | [] => rfl
  | s :: R => by simp only [List.map_cons, List.sum_cons, sum_add f g R]; omega
theorem sum_zero (R : List Nat) : (R.map fun _ => (0 : Int)).sum = 0 := by
  induction R with
  | nil => rfl
  | cons s R ih => simp only [List.map_cons, List.sum_cons, ih]; rfl
/-- Weights times how often each symbol stands in a row: the weights of the row's symbols. -/
theorem sum_cnt (l : List Int) (N : Nat) : ∀ Z : List Int, (∀ z ∈ Z, 0 ≤ z ∧ z < N) → ((List.range N).map fun s : Nat => l.getD s 0 * (cnt Z s : Int)).sum = (Z.map fun z => l.getD z.toNat 0).sum
  | [], _ => by
    have : (List.range N).map (fun s : Nat => l.getD s 0 * (cnt [] s : Int)) = (List.range N).map (fun _ => 0) := by
      apply List.map_congr_left
      intro s _
      simp [cnt]
    rw [this, sum_zero]; rfl
  | z :: Z, h => by
    have hz := h z (by simp)
    have ih := sum_cnt l N Z (fun y hy => h y (by simp [hy]))
    rw [List.map_cons, List.sum_cons, ← ih, ← sum_pick (fun s => l.getD s 0) z N hz.1 hz.2, ← sum_add]
    congr 1
    apply List.map_congr_left
    intro s _
    rw [cnt_cons]
    by_cases e : z = (s : Int)
    · rw [if_pos e, if_pos e]; push_cast; rw [Int.mul_add, Int.mul_one]
    · rw [if_neg e, if_neg e]; simp

/-- A pack weighs what its symbols weigh. -/
def Wt (l : List Int) (p : AP) : Prop := p.1 = (p.2.map fun z => l.getD z.toNat 0).sum
theorem wt_pairs {l : List Int} : ∀ (r : List AP), (∀ p ∈ r, Wt l p) → ∀ p ∈ pairsOf r, Wt l p
  | [], _, p, hp => by simp [pairsOf] at hp
  | [a], _, p, hp => by simp [pairsOf] at hp
  | a :: b :: r, h, p, hp => by
    simp only [pairsOf, List.mem_cons] at hp
    rcases hp with rfl | hp
    · have h1 := h a (by simp)
      have h2 := h b (by simp)
      unfold Wt at h1 h2 ⊢
      simp only [List.map_append, List.sum_append]
      omega
    · exact wt_pairs r (fun q hq => h q (by simp [hq])) p hp
theorem wt_row {l : List Int} {one : List AP} (h : ∀ p ∈ one, Wt l p) : ∀ k, ∀ p ∈ rowAt one k, Wt l p
  | 0 => h
  | k + 1 => fun p hp => by
    rcases List.mem_append.1 (((stSort_steq _).mem p).2 hp) with h1 | h1
    · exact h p h1
    · exact wt_pairs _ (wt_row h k) p h1
theorem wt_sum {l : List Int} : ∀ (r : List AP), (∀ p ∈ r, Wt l p) → wsum r = ((symsOf r).map fun z => l.getD z.toNat 0).sum
  | [], _ => rfl
  | p :: r, h => by
    have ih := wt_sum r (fun q hq => h q (by simp [hq]))
    have h1 := h p (by simp)
    unfold Wt at h1
    unfold wsum symsOf at ih ⊢
    rw [List.map_cons, List.sum_cons, List.flatMap_cons, List.map_append, List.sum_append, ih, h1]
theorem wt_ones (l : List Int) : ∀ p ∈ onesOf l, Wt l p := fun p hp => by
  obtain ⟨i, h1, h2, rfl⟩ := ones_is l hp
  simp [Wt]

/-- What is known of the lengths of two weights or more. -/
structure LenFacts (l : List Int) (ms : Nat) (T : List Nat) (one : List AP) : Prop where
  len : T.length = ms
  at_ : ∀ (q s : Nat), (symsOf one)[q]? = some (s : Int) → cnt (symsOf ((rowAt one (ms - 1)).take (2 * one.length - 2))) s = over T q
  off : ∀ s : Nat, (s : Int) ∉ symsOf one → cnt (symsOf ((rowAt one (ms - 1)).take (2 * one.length - 2))) s = 0
  pos : ∀ q, q < one.length → 1 ≤ over T q
  kraft : ((List.range one.length).map fun i => 2 ^ (ms - over T i)).sum = 2 ^ ms
theorem len_facts (l : List Int) (ms : Nat) (hms : 1 ≤ ms) (hf : l.all fairF = true) (h2 : 2 ≤ (onesOf l).length) (hN : (onesOf l).length ≤ 2 ^ ms) : ∃ T, LenFacts l ms T (stSort (onesOf l)) := by
  obtain ⟨o1, o2, o3, o4⟩ := ones_facts l hf
  have hlen : (stSort (onesOf l)).length = (onesOf l).length := stSort_len _
  have hmem : ∀ p, p ∈ stSort (onesOf l) → p ∈ onesOf l := fun p hp => ((stSort_steq _).mem p).2 hp
  have hpos : PosS (stSort (onesOf l)) := fun p hp => by
    obtain ⟨i, h1, h2, rfl⟩ := ones_is l (hmem p hp)
    exact h2
  have hone : ∀ p ∈ stSort (onesOf l), p.2.length = 1 := fun p hp => (o3 p (hmem p hp)).2
  have hsrt := stSort_srt (onesOf l)
  have hnd : (symsOf (stSort (onesOf l))).Nodup := (syms_perm (stSort_steq (onesOf l)).1).nodup_iff.1 (ones_nodup l)
  generalize stSort (onesOf l) = one at *
  have hp2 : 2 * one.length - 2 ≤ (rowAt one (ms - 1)).length := by
    have := rowAt_last one ms (by omega) (ms - 1) (by omega)
    rw [show ms - (ms - 1) = 1 from by omega] at this
    omega
  obtain ⟨a, ts, g1, g2, g3, g4, g5, g6, g7⟩ := pack_rows hsrt hpos (ms - 1) (2 * one.length - 2) hp2
  have hfl : ((a :: ts).flatMap fun a => symsOf (one.take a)) = (a :: ts).flatMap fun a => (symsOf one).take a := by
    congr 1
    funext b
    exact syms_take one hone b
  have hw : width (a :: ts) = (one.length - 1) * 2 ^ (a :: ts).length := by
    rw [g5, List.length_cons, g1, show 2 * one.length - 2 = (one.length - 1) * 2 from by omega, Nat.mul_assoc, Nat.pow_succ, Nat.mul_comm 2]
  have hT : (a :: ts).length = ms := by rw [List.length_cons, g1]; omega
  refine ⟨a :: ts, hT, fun q s hq => ?_, fun s hs => ?_, fun q hq => ?_, ?_⟩
  · rw [cnt_perm g7, hfl]
    exact cnt_flat hnd hq _
  · rw [cnt_perm g7, hfl]
    refine cnt_none (fun z hz e => hs ?_)
    obtain ⟨b, _, hb⟩ := List.mem_flatMap.1 hz
    rw [← e]
    exact List.mem_of_mem_take hb
  · have := width_full g3 (by omega) hw g2
    rw [over_cons, if_pos (by omega)]
    omega
  · have := width_kraft (ts := a :: ts) (n := one.length) (List.pairwise_cons.2 ⟨g3, g4⟩) (fun b hb => by
      rcases List.mem_cons.1 hb with rfl | hb
      · exact g2
      · exact Nat.le_trans (g3 b hb) g2) (by omega) hw
    rw [hT] at this
    exact this

theorem lens_len (l : List Int) (ms : Nat) : (lengthsOf l ms).length = l.length := by
  unfold lengthsOf
  split
  · simp
  · split <;> simp
theorem sym_of_ones {l : List Int} {s : Nat} (hs : s < l.length) (h : 0 < l.getD s 0) : (s : Int) ∈ symsOf (stSort (onesOf l)) := by
  refine (syms_perm (stSort_steq (onesOf l)).1).mem_iff.1 ?_
  rw [ones_syms]
  exact List.mem_map.2 ⟨s, List.mem_filter.2 ⟨by simpa using hs, by simpa using h⟩, rfl⟩
theorem sym_not_ones {l : List Int} {s : Nat} (h : ¬ 0 < l.getD s 0) : (s : Int) ∉ symsOf (stSort (onesOf l)) := by
  intro hm
  have := (syms_perm (stSort_steq (onesOf l)).1).mem_iff.2 hm
  rw [ones_syms] at this
  obtain ⟨j, hj, e⟩ := List.mem_map.1 this
  have e' : (j : Int) = (s : Int) := e
  obtain rfl : j = s := by omega
  exact h (by simpa using (List.mem_filter.1 hj).2)
theorem syms_len (l : List Int) (hf : l.all fairF = true) : (symsOf (stSort (onesOf l))).length = (stSort (onesOf l)).length := by
  rw [symsOf_len, ssum_sort, stSort_len]
  exact (wsum_bd (onesOf l) (fun p hp => (ones_facts l hf).2.2.1 p hp)).2
theorem lens_at {l : List Int} {ms : Nat} (h2 : 2 ≤ (onesOf l).length) {s : Nat} (hs : s < l.length) : (lengthsOf l ms).getD s 0 = cnt (symsOf ((rowAt (stSort (onesOf l)) (ms - 1)).take (2 * (stSort (onesOf l)).length - 2))) s := by
  unfold lengthsOf
  rw [if_neg (by omega), if_neg (by omega), stSort_len]
  simp [hs]
theorem pow_scale (ms k : Nat) (h1 : ms ≤ 15) (h2 : k ≤ ms) : (2 : Int) ^ (15 - (k : Int)).toNat = 2 ^ (15 - ms) * ((2 ^ (ms - k) : Nat) : Int) := by
  rw [show (15 - (k : Int)).toNat = (15 - ms) + (ms - k) from by omega, Int.pow_add]
  push_cast
  rfl
theorem sum_scale (c : Int) (f : Nat → Nat) : ∀ R : List Nat, (R.map fun i => c * (f i : Int)).sum = c * ((R.map f).sum : Nat)
  | [] => by simp
  | i :: R => by
    simp only [List.map_cons, List.sum_cons, sum_scale c f R]
    push_cast
    rw [Int.mul_add]
theorem map_places {S : List Int} (f : Int → Int) (g : Nat → Int) (h : ∀ q z, S[q]? = some z → f z = g q) : S.map f = (List.range S.length).map g := by
  apply List.ext_getElem?
  intro q
  rw [List.getElem?_map, List.getElem?_map]
  by_cases hq : q < S.length
  · rw [List.getElem?_eq_getElem hq, List.getElem?_range hq]
    exact congrArg some (h q _ (List.getElem?_eq_getElem hq))
  · rw [List.getElem?_eq_none (by omega), List.getElem?_eq_none (by simp; omega)]; rfl
/-- Two weights or more: the lengths fill all codes. -/
theorem lens_kraft {l : List Int} {ms : Nat} {T : List Nat} (hf : l.all fairF = true) (h2 : 2 ≤ (onesOf l).length) (hm15 : ms ≤ 15) (H : LenFacts l ms T (stSort (onesOf l))) : kraft (lengthsOf l ms) = 32768 := by
  have hZ : lengthsOf l ms = (List.range l.length).map fun s => ((lengthsOf l ms).getD s 0) := by
    apply List.ext_getElem?
    intro i
    rw [List.getElem?_map]
    by_cases hi : i < l.length
    · rw [List.getElem?_range hi]
      have hi' : i < (lengthsOf l ms).length := by rw [lens_len]; exact hi
      simp [hi']
    · rw [List.getElem?_eq_none (by rw [lens_len]; omega), List.getElem?_eq_none (by simp; omega)]; rfl
  unfold Go.Proofs.Ytacidmamfkfipaa.kraft
  rw [hZ, List.map_map]
  have hsl := syms_len l hf
  have e1 : (List.range l.length).map ((fun z : Int => if 0 < z then (2 : Int) ^ (15 - z).toNat else 0) ∘ fun s => (lengthsOf l ms).getD s 0)
      = (List.range l.length).map fun s : Nat => if decide (0 < l.getD s 0) then (2 : Int) ^ (15 - (lengthsOf l ms).getD s 0).toNat else 0 := by
    apply List.map_congr_left
    intro s hs
    have hs' : s < l.length := by simpa using hs
    simp only [Function.comp]
    by_cases hp : 0 < l.getD s 0
    · obtain ⟨q, hq, he⟩ := List.getElem_of_mem (sym_of_ones hs' hp)
      have hq' : (symsOf (stSort (onesOf l)))[q]? = some (s : Int) := by rw [List.getElem?_eq_getElem hq, he]
      have h3 := H.at_ q s hq'
      have h4 := H.pos q (by omega)
      rw [if_pos (by rw [lens_at h2 hs']; omega), if_pos (by simpa using hp)]
    · have h3 := H.off s (sym_not_ones hp)
      rw [if_neg (by rw [lens_at h2 hs', h3]; omega), if_neg (by simpa using hp)]
  rw [e1, sum_filter (fun s : Nat => decide (0 < l.getD s 0)) (fun s : Nat => (2 : Int) ^ (15 - (lengthsOf l ms).getD s 0).toNat)]
  have e2 : ((List.range l.length).filter fun s : Nat => decide (0 < l.getD s 0)).map (fun s : Nat => (2 : Int) ^ (15 - (lengthsOf l ms).getD s 0).toNat)
      = (symsOf (onesOf l)).map fun z : Int => (2 : Int) ^ (15 - (lengthsOf l ms).getD z.toNat 0).toNat := by
    rw [ones_syms, List.map_map]
    rfl
  rw [e2, perm_sum ((syms_perm (stSort_steq (onesOf l)).1).map _)]
  rw [map_places (S := symsOf (stSort (onesOf l))) _ (fun q => 2 ^ (15 - ms) * ((2 ^ (ms - over T q) : Nat) : Int)) (fun q z hz => ?_), sum_scale, hsl, H.kraft]
  · push_cast
    rw [← Int.pow_add, show 15 - ms + ms = 15 from by omega]
    rfl
  · have hz2 := (syms_perm (stSort_steq (onesOf l)).1).mem_iff.2 (List.mem_of_getElem? hz)
    rw [ones_syms] at hz2
    obtain ⟨s, hs, rfl⟩ := List.mem_map.1 hz2
    have hs' : s < l.length := by simpa using (List.mem_filter.1 hs).1
    have h3 := H.at_ q s hz
    have h4 : over T q ≤ ms := by rw [← H.len]; exact over_le T q
    rw [Int.toNat_natCast, lens_at h2 hs', h3]
    exact pow_scale ms (over T q) hm15 h4
end Go.Proofs.Ytacidmamfkfipaa
