/-
  state, plain: counts of slices; what the counts' setting right makes of an index.
-/
import Derived.Test.YtgjjdfhoakailaaGreatStS6
namespace Go.Proofs.YtgjjdfhoakailaaGreat
open Go.RowKit Go.Maps Go.Sort Go.Shelf
set_option linter.unusedVariables false
set_option linter.unusedSimpArgs false

/-- How many slices of a list have a key. -/
def cntI (l : List It) (K : Key) : Int := ((l.filter (fun i => i.kind == 2 && decide (i.sl.key = K))).length : Int)
theorem cntI_nonneg (l : List It) (K : Key) : 0 ≤ cntI l K := by unfold cntI; omega
theorem cntI_le (l : List It) (K : Key) : cntI l K ≤ l.length := by
  unfold cntI
  have := List.length_filter_le (fun i : It => i.kind == 2 && decide (i.sl.key = K)) l
  omega
theorem cntI_cons (i : It) (l : List It) (K : Key) : cntI (i :: l) K = (if i.kind == 2 && decide (i.sl.key = K) then 1 else 0) + cntI l K := by
  unfold cntI
  rw [List.filter_cons]
  split
  · rw [List.length_cons]; omega
  · omega
theorem cntI_append (l r : List It) (K : Key) : cntI (l ++ r) K = cntI l K + cntI r K := by
  unfold cntI
  rw [List.filter_append, List.length_append]
  omega
theorem cnt_val (l : List It) (K : Key) : valF (sumF (cntL l)) K = cntI l K := by
  rw [valF_sumF]
  induction l with
  | nil => rfl
  | cons i l ih =>
    rw [cntI_cons, ← ih]
    unfold cntL
    rw [List.filter_cons]
    by_cases h : (i.kind == 2) = true
    · by_cases hk : i.sl.key = K
      · simp [h, hk]
      · simp [h, hk]
    · simp [h]
def sumCn (a : List Cn) (K : Key) : Int := ((a.filter (fun c => decide (c.key = K))).map (·.ref)).sum
def KeysNd (a : List Cn) : Prop := a.Pairwise (fun x y => x.key ≠ y.key)
theorem sumCn_not {a : List Cn} {K : Key} (h : ∀ c ∈ a, c.key ≠ K) : sumCn a K = 0 := by
  unfold sumCn
  rw [List.filter_eq_nil_iff.2 (fun c hc => by simpa using h c hc)]
  rfl
theorem sumCn_mem {a : List Cn} (h : KeysNd a) {c : Cn} (hc : c ∈ a) : sumCn a c.key = c.ref := by
  induction a with
  | nil => cases hc
  | cons x a ih =>
    obtain ⟨h1, h2⟩ := List.pairwise_cons.1 h
    rcases List.mem_cons.1 hc with rfl | hc
    · have := sumCn_not (a := a) (K := c.key) (fun y hy e => h1 y hy e.symm)
      unfold sumCn at this ⊢
      rw [List.filter_cons]
      simp [this]
    · have := ih h2 hc
      have hne := h1 c hc
      unfold sumCn at this ⊢
      rw [List.filter_cons]
      simp [this, hne]
theorem rowC_nd {S : SuM} (hu : Uniq S) : KeysNd (rowC S) := by
  refine ((rowC_perm S).pairwise_iff (fun {a b} h => Ne.symm h)).2 ?_
  rw [List.pairwise_map]
  exact hu.filter _
theorem row_sum {S : SuM} (hu : Uniq S) (K : Key) : sumCn (rowC S) K = valF S K := by
  by_cases h : valF S K = 0
  · rw [h]
    refine sumCn_not (fun c hc e => ?_)
    have h1 := rowC_val hu hc
    have h2 := ((rowC_mem S c).1 hc).2
    rw [e, h] at h1
    exact h2 h1
  · cases hg : aget S K with
    | none => exact absurd (by unfold valF; rw [hg]; rfl) h
    | some v =>
      have hv : valF S K = v := by unfold valF; rw [hg]; rfl
      have hm : (⟨K, v⟩ : Cn) ∈ rowC S := (rowC_mem S ⟨K, v⟩).2 ⟨aget_mem hg, by rw [← hv]; exact h⟩
      rw [hv]
      exact sumCn_mem (rowC_nd hu) hm
theorem neg_sum (a : List Cn) (K : Key) : (((negL a).filter (fun p => decide (p.1 = K))).map (·.2)).sum = - sumCn a K := by
  induction a with
  | nil => rfl
  | cons c a ih =>
    unfold negL sumCn at ih ⊢
    rw [List.map_cons, List.filter_cons, List.filter_cons]
    by_cases h : c.key = K
    · simp only [h, decide_true, if_true, List.map_cons, List.sum_cons]
      rw [ih]
      omega
    · simp only [h, decide_false, Bool.false_eq_true, if_false]
      exact ih
theorem pos_sum (a : List Cn) (K : Key) : (((posL a).filter (fun p => decide (p.1 = K))).map (·.2)).sum = sumCn a K := by
  induction a with
  | nil => rfl
  | cons c a ih =>
    unfold posL sumCn at ih ⊢
    rw [List.map_cons, List.filter_cons, List.filter_cons]
    by_cases h : c.key = K
    · simp only [h, decide_true, if_true, List.map_cons, List.sum_cons]
      rw [ih]
    · simp only [h, decide_false, Bool.false_eq_true, if_false]
      exact ih
theorem delta_val (l l' : List It) (K : Key) : valF (sumF (deltaL (countC l) (countC l'))) K = cntI l' K - cntI l K := by
  have h1 : sumCn (countC l) K = cntI l K := by unfold countC; rw [row_sum (sumF_uniq _), cnt_val]
  have h2 : sumCn (countC l') K = cntI l' K := by unfold countC; rw [row_sum (sumF_uniq _), cnt_val]
  rw [valF_sumF]
  unfold deltaL
  rw [List.filter_append, List.map_append, List.sum_append, neg_sum, pos_sum, h1, h2]
  omega
/-- What is turned: each key once. -/
theorem delta_mem {l l' : List It} {c : Cn} (h : c ∈ deltaC (countC l) (countC l')) : c.ref = cntI l' c.key - cntI l c.key ∧ c.ref ≠ 0 := by
  have h1 := rowC_val (sumF_uniq _) h
  rw [delta_val] at h1
  exact ⟨h1, ((rowC_mem _ c).1 h).2⟩
theorem delta_has {l l' : List It} {K : Key} (h : cntI l' K ≠ cntI l K) : (⟨K, cntI l' K - cntI l K⟩ : Cn) ∈ deltaC (countC l) (countC l') := by
  have h1 := delta_val l l' K
  refine (rowC_mem _ _).2 ⟨?_, ?_⟩
  · cases hg : aget (sumF (deltaL (countC l) (countC l'))) K with
    | none =>
      exfalso
      unfold valF at h1
      rw [hg] at h1
      simp at h1
      omega
    | some v =>
      unfold valF at h1
      rw [hg] at h1
      simp at h1
      have := aget_mem hg
      rw [h1] at this
      exact this
  · simp only
    omega
theorem delta_nd (l l' : List It) : KeysNd (deltaC (countC l) (countC l')) := rowC_nd (sumF_uniq _)
/-- One turn of a count. -/
def turn1 (q : Option Pl) (n : Int) : Option Pl := match q with
  | none => none
  | some p => if wantIn p n then (if p.ref + n = 0 then none else some (plAdd p n)) else some p
theorem wantX_get (E : ExM) (K : Key) (n : Int) (L : Key) : aget (wantX E K n) L = if K = L then turn1 (aget E K) n else aget E L := by
  unfold wantX turnG turnX turn1
  cases hg : aget E K with
  | none =>
    simp only [Bool.false_eq_true, if_false]
    split
    · rename_i h; rw [← h, hg]
    · rfl
  | some p =>
    simp only
    by_cases hw : wantIn p n
    · simp only [hw, if_true]
      by_cases hz : p.ref + n = 0
      · rw [if_pos (by simpa using hz), if_pos hz, aget_del, aget_put]
        split <;> rfl
      · rw [if_neg (by simpa using hz), if_neg hz, aget_put]
    · simp only [hw, if_false, Bool.false_eq_true]
      split
      · rename_i h; rw [← h, hg]
      · rfl
theorem fixE_get {D : List Cn} (h : KeysNd D) (E : ExM) (K : Key) : aget (fixE E D) K = match D.find? (fun c => decide (c.key = K)) with
    | none => aget E K
    | some c => turn1 (aget E K) c.ref := by
  induction D using snoc_ind with
  | nil => rfl
  | append_singleton l c ih =>
    have hp := List.pairwise_append.1 h
    rw [fixE_snoc, wantX_get, List.find?_append]
    by_cases hk : c.key = K
    · have hn : l.find? (fun c => decide (c.key = K)) = none := List.find?_eq_none.2 (fun x hx => by
        have := hp.2.2 x hx c (by simp)
        rw [hk] at this
        simpa using this)
      have := ih hp.1
      rw [hn] at this
      rw [if_pos hk, hk, this, hn]
      simp [hk]
    · rw [if_neg hk, ih hp.1]
      cases hf : l.find? (fun c => decide (c.key = K)) with
      | none => simp [hk]
      | some x => simp
/-- The counts, set right. -/
theorem fix_get {E : ExM} {l l' : List It} (h1 : ∀ K p, aget E K = some p → p.ref = cntI l K) (hl : l'.length ≤ 2147483647) (K : Key) :
    aget (fixE E (deltaC (countC l) (countC l'))) K = (aget E K).bind (fun p => if cntI l' K = 0 ∧ cntI l K ≠ 0 then none else some ⟨p.pos, p.sec, p.uni, cntI l' K⟩) := by
  rw [fixE_get (delta_nd l l')]
  cases hf : (deltaC (countC l) (countC l')).find? (fun c => decide (c.key = K)) with
  | none =>
    have heq : cntI l' K = cntI l K := by
      by_cases h : cntI l' K = cntI l K
      · exact h
      · have := List.find?_eq_none.1 hf _ (delta_has h)
        simp at this
    cases hg : aget E K with
    | none => rfl
    | some p =>
      have hp := h1 K p hg
      simp only [Option.bind_some]
      rw [if_neg (by omega), heq, ← hp]
  | some c =>
    have hm := List.mem_of_find?_eq_some hf
    have hk : c.key = K := by simpa using List.find?_some hf
    obtain ⟨h2, h3⟩ := delta_mem hm
    rw [hk] at h2
    cases hg : aget E K with
    | none => rfl
    | some p =>
      have hp := h1 K p hg
      have ha := cntI_nonneg l' K
      have hb := cntI_le l' K
      have hw : wantIn p c.ref := by unfold wantIn; omega
      simp only [Option.bind_some, turn1, hw, if_true]
      by_cases hz : p.ref + c.ref = 0
      · rw [if_pos hz, if_pos (by omega)]
      · rw [if_neg hz, if_neg (by omega)]
        unfold plAdd
        rw [show p.ref + c.ref = cntI l' K by omega]
theorem wantX_uniq {E : ExM} (h : Uniq E) (K : Key) (n : Int) : Uniq (wantX E K n) ∧ (wantX E K n).length ≤ E.length := by
  have ht : Uniq (turnX E K n) ∧ (turnX E K n).length ≤ E.length := by
    unfold turnX
    cases hg : aget E K with
    | none => exact ⟨h, Nat.le_refl _⟩
    | some p =>
      simp only
      split
      · refine ⟨h.put _ _, ?_⟩
        have := adel_len h K
        rw [hg] at this
        simp at this
        unfold aput
        rw [List.length_cons]
        omega
      · exact ⟨h, Nat.le_refl _⟩
  unfold wantX
  split
  · exact ⟨ht.1.del _, Nat.le_trans (adel_le' _ _) ht.2⟩
  · exact ht
theorem fixE_uniq {E : ExM} (h : Uniq E) (D : List Cn) : Uniq (fixE E D) ∧ (fixE E D).length ≤ E.length := by
  induction D using snoc_ind with
  | nil => exact ⟨h, Nat.le_refl _⟩
  | append_singleton l c ih =>
    rw [fixE_snoc]
    have := wantX_uniq ih.1 c.key c.ref
    exact ⟨this.1, Nat.le_trans this.2 ih.2⟩
end Go.Proofs.YtgjjdfhoakailaaGreat
