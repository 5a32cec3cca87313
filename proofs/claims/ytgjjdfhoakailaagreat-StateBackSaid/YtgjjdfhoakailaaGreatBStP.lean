/-
  what this claim needs of: StP (written by cut.py).
-/
import Derived.Test.YtgjjdfhoakailaaGreatBStS6
import Derived.Test.YtgjjdfhoakailaaGreatBStS3
namespace Go.Proofs.YtgjjdfhoakailaaGreat
open Go.RowKit Go.Maps Go.Sort Go.Shelf
set_option linter.unusedVariables false
set_option linter.unusedSimpArgs false

/-- How many slices of a list have a key. -/
def cntI (l : List It) (K : Key) : Int := ((l.filter (fun i => i.kind == 2 && decide (i.sl.key = K))).length : Int)
theorem cntI_nonneg (l : List It) (K : Key) : 0 ≤ cntI l K := by unfold cntI; omega
theorem cntI_le (l : List It) (K : Key) : cntI l K ≤ l.length := by
  unfold cntI
  have := List.length_filter_le (fun i : It => i.kind == 2 && decide (i.sl.key = K)) l
  omega
theorem cntI_cons (i : It) (l : List It) (K : Key) : cntI (i :: l) K = (if i.kind == 2 && decide (i.sl.key = K) then 1 else 0) + cntI l K := by
  unfold cntI
  rw [List.filter_cons]
  split
  · rw [List.length_cons]; omega
  · omega
theorem cntI_append (l r : List It) (K : Key) : cntI (l ++ r) K = cntI l K + cntI r K := by
  unfold cntI
  rw [List.filter_append, List.length_append]
  omega
theorem cnt_val (l : List It) (K : Key) : valF (sumF (cntL l)) K = cntI l K := by
  rw [valF_sumF]
  induction l with
  | nil => rfl
  | cons i l ih =>
    rw [cntI_cons, ← ih]
    unfold cntL
    rw [List.filter_cons]
    by_cases h : (i.kind == 2) = true
    · by_cases hk : i.sl.key = K
      · simp [h, hk]
      · simp [h, hk]
    · simp [h]
def sumCn (a : List Cn) (K : Key) : Int := ((a.filter (fun c => decide (c.key = K))).map (·.ref)).sum
def KeysNd (a : List Cn) : Prop := a.Pairwise (fun x y => x.key ≠ y.key)
theorem sumCn_not {a : List Cn} {K : Key} (h : ∀ c ∈ a, c.key ≠ K) : sumCn a K = 0 := by
  unfold sumCn
  rw [List.filter_eq_nil_iff.2 (fun c hc => by simpa using h c hc)]
  rfl
theorem sumCn_mem {a : List Cn} (h : KeysNd a) {c : Cn} (hc : c ∈ a) : sumCn a c.key = c.ref := by
  induction a with
  | nil => cases hc
  | cons x a ih =>
    obtain ⟨h1, h2⟩ := List.pairwise_cons.1 h
    rcases List.mem_cons.1 hc with rfl | hc
    · have := sumCn_not (a := a) (K := c.key) (fun y hy e => h1 y hy e.symm)
      unfold sumCn at this ⊢
      rw [List.filter_cons]
      simp [this]
    · have := ih h2 hc
      have hne := h1 c hc
      unfold sumCn at this ⊢
      rw [List.filter_cons]
      simp [this, hne]
theorem rowC_nd {S : SuM} (hu : Uniq S) : KeysNd (rowC S) := by
  refine ((rowC_perm S).pairwise_iff (fun {a b} h => Ne.symm h)).2 ?_
  rw [List.pairwise_map]
  exact hu.filter _
theorem row_sum {S : SuM} (hu : Uniq S) (K : Key) : sumCn (rowC S) K = valF S K := by
  by_cases h : valF S K = 0
  · rw [h]
    refine sumCn_not (fun c hc e => ?_)
    have h1 := rowC_val hu hc
    have h2 := ((rowC_mem S c).1 hc).2
    rw [e, h] at h1
    exact h2 h1
  · cases hg : aget S K with
    | none => exact absurd (by unfold valF; rw [hg]; rfl) h
    | some v =>
      have hv : valF S K = v := by unfold valF; rw [hg]; rfl
      have hm : (⟨K, v⟩ : Cn) ∈ rowC S := (rowC_mem S ⟨K, v⟩).2 ⟨aget_mem hg, by rw [← hv]; exact h⟩
      rw [hv]
      exact sumCn_mem (rowC_nd hu) hm
theorem neg_sum (a : List Cn) (K : Key) : (((negL a).filter (fun p => decide (p.1 = K))).map (·.2)).sum = - sumCn a K := by
  induction a with
  | nil => rfl
  | cons c a ih =>
    unfold negL sumCn at ih ⊢
    rw [List.map_cons, List.filter_cons, List.filter_cons]
    by_cases h : c.key = K
    · simp only [h, decide_true, if_true, List.map_cons, List.sum_cons]
      rw [ih]
      omega
    · simp only [h, decide_false, Bool.false_eq_true, if_false]
      exact ih
theorem pos_sum (a : List Cn) (K : Key) : (((posL a).filter (fun p => decide (p.1 = K))).map (·.2)).sum = sumCn a K := by
  induction a with
  | nil => rfl
  | cons c a ih =>
    unfold posL sumCn at ih ⊢
    rw [List.map_cons, List.filter_cons, List.filter_cons]
    by_cases h : c.key = K
    · simp only [h, decide_true, if_true, List.map_cons, List.sum_cons]
      rw [ih]
    · simp only [h, decide_false, Bool.false_eq_true, if_false]
      exact ih
theorem delta_val (l l' : List It) (K : Key) : valF (sumF (deltaL (countC l) (countC l'))) K = cntI l' K - cntI l K := by
  have h1 : sumCn (countC l) K = cntI l K := by unfold countC; rw [row_sum (sumF_uniq _), cnt_val]
  have h2 : sumCn (countC l') K = cntI l' K := by unfold countC; rw [row_sum (sumF_uniq _), cnt_val]
  rw [valF_sumF]
  unfold deltaL
  rw [List.filter_append, List.map_append, List.sum_append, neg_sum, pos_sum, h1, h2]
  omega
/-- What is turned: each key once. -/
theorem delta_mem {l l' : List It} {c : Cn} (h : c ∈ deltaC (countC l) (countC l')) : c.ref = cntI l' c.key - cntI l c.key ∧ c.ref ≠ 0 := by
  have h1 := rowC_val (sumF_uniq _) h
  rw [delta_val] at h1
  exact ⟨h1, ((rowC_mem _ c).1 h).2⟩
theorem delta_has {l l' : List It} {K : Key} (h : cntI l' K ≠ cntI l K) : (⟨K, cntI l' K - cntI l K⟩ : Cn) ∈ deltaC (countC l) (countC l') := by
  have h1 := delta_val l l' K
  refine (rowC_mem _ _).2 ⟨?_, ?_⟩
  · cases hg : aget (sumF (deltaL (countC l) (countC l'))) K with
    | none =>
      exfalso
      unfold valF at h1
      rw [hg] at h1
      simp at h1
      omega
    | some v =>
      unfold valF at h1
      rw [hg] at h1
      simp at h1
      have := aget_mem hg
      rw [h1] at this
      exact this
  · simp only
    omega
theorem delta_nd (l l' : List It) : KeysNd (deltaC (countC l) (countC l')) := rowC_nd (sumF_uniq _)
/-- One turn of a count. -/
def turn1 (q : Option Pl) (n : Int) : Option Pl := match q with
  | none => none
  | some p => if wantIn p n then (if p.ref + n = 0 then none else some (plAdd p n)) else some p
theorem wantX_get (E : ExM) (K : Key) (n : Int) (L : Key) : aget (wantX E K n) L = if K = L then turn1 (aget E K) n else aget E L := by
  unfold wantX turnG turnX turn1
  cases hg : aget E K with
  | none =>
    simp only [Bool.false_eq_true, if_false]
    split
    · rename_i h; rw [← h, hg]
    · rfl
  | some p =>
    simp only
    by_cases hw : wantIn p n
    · simp only [hw, if_true]
      by_cases hz : p.ref + n = 0
      · rw [if_pos (by simpa using hz), if_pos hz, aget_del, aget_put]
        split <;> rfl
      · rw [if_neg (by simpa using hz), if_neg hz, aget_put]
    · simp only [hw, if_false, Bool.false_eq_true]
      split
      · rename_i h; rw [← h, hg]
      · rfl
theorem fixE_get {D : List Cn} (h : KeysNd D) (E : ExM) (K : Key) : aget (fixE E D) K = match D.find? (fun c => decide (c.key = K)) with
    | none => aget E K
    | some c => turn1 (aget E K) c.ref := by
  induction D using snoc_ind with
  | nil => rfl
  | append_singleton l c ih =>
    have hp := List.pairwise_append.1 h
    rw [fixE_snoc, wantX_get, List.find?_append]
    by_cases hk : c.key = K
    · have hn : l.find? (fun c => decide (c.key = K)) = none := List.find?_eq_none.2 (fun x hx => by
        have := hp.2.2 x hx c (by simp)
        rw [hk] at this
        simpa using this)
      have := ih hp.1
      rw [hn] at this
      rw [if_pos hk, hk, this, hn]
      simp [hk]
    · rw [if_neg hk, ih hp.1]
      cases hf : l.find? (fun c => decide (c.key = K)) with
      | none => simp [hk]
      | some x => simp
/-- The counts, set right. -/
theorem fix_get {E : ExM} {l l' : List It} (h1 : ∀ K p, aget E K = some p → p.ref = cntI l K) (hl : l'.length ≤ 2147483647) (K : Key) :
    aget (fixE E (deltaC (countC l) (countC l'))) K = (aget E K).bind (fun p => if cntI l' K = 0 ∧ cntI l K ≠ 0 then none else some ⟨p.pos, p.sec, p.uni, cntI l' K⟩) := by
  rw [fixE_get (delta_nd l l')]
  cases hf : (deltaC (countC l) (countC l')).find? (fun c => decide (c.key = K)) with
  | none =>
    have heq : cntI l' K = cntI l K := by
      by_cases h : cntI l' K = cntI l K
      · exact h
      · have := List.find?_eq_none.1 hf _ (delta_has h)
        simp at this
    cases hg : aget E K with
    | none => rfl
    | some p =>
      have hp := h1 K p hg
      simp only [Option.bind_some]
      rw [if_neg (by omega), heq, ← hp]
  | some c =>
    have hm := List.mem_of_find?_eq_some hf
    have hk : c.key = K := by simpa using List.find?_some hf
    obtain ⟨h2, h3⟩ := delta_mem hm
    rw [hk] at h2
    cases hg : aget E K with
    | none => rfl
    | some p =>
      have hp := h1 K p hg
      have ha := cntI_nonneg l' K
      have hb := cntI_le l' K
      have hw : wantIn p c.ref := by unfold wantIn; omega
      simp only [Option.bind_some, turn1, hw, if_true]
      by_cases hz : p.ref + c.ref = 0
      · rw [if_pos hz, if_pos (by omega)]
      · rw [if_neg hz, if_neg (by omega)]
        unfold plAdd
        rw [show p.ref + c.ref = cntI l' K by omega]
theorem wantX_uniq {E : ExM} (h : Uniq E) (K : Key) (n : Int) : Uniq (wantX E K n) ∧ (wantX E K n).length ≤ E.length := by
  have ht : Uniq (turnX E K n) ∧ (turnX E K n).length ≤ E.length := by
    unfold turnX
    cases hg : aget E K with
    | none => exact ⟨h, Nat.le_refl _⟩
    | some p =>
      simp only
      split
      · refine ⟨h.put _ _, ?_⟩
        have := adel_len h K
        rw [hg] at this
        simp at this
        unfold aput
        rw [List.length_cons]
        omega
      · exact ⟨h, Nat.le_refl _⟩
  unfold wantX
  split
  · exact ⟨ht.1.del _, Nat.le_trans (adel_le' _ _) ht.2⟩
  · exact ht
theorem fixE_uniq {E : ExM} (h : Uniq E) (D : List Cn) : Uniq (fixE E D) ∧ (fixE E D).length ≤ E.length := by
  induction D using snoc_ind with
  | nil => exact ⟨h, Nat.le_refl _⟩
  | append_singleton l c ih =>
    rw [fixE_snoc]
    have := wantX_uniq ih.1 c.key c.ref
    exact ⟨this.1, Nat.le_trans this.2 ih.2⟩
end Go.Proofs.YtgjjdfhoakailaaGreat
namespace Go.Proofs.YtgjjdfhoakailaaGreat
open Go.RowKit Go.Maps Go.Sort Go.Shelf
set_option linter.unusedVariables false
set_option linter.unusedSimpArgs false

/-- A map of the state: the current one, or a snapshot's. -/
def IsMap (f : MpF) (M : SnM) (g : MpF) : Prop := g = f ∨ ∃ p ∈ M, p.2.2 = g
def HasSl (n : Nat) (f : MpF) (M : SnM) (K : Key) : Prop := ∃ g, IsMap f M g ∧ ∃ u, u < n ∧ (g u).mask ≠ 0 ∧ (g u).key = K
theorem gAt_zero (f : MpF) (M : SnM) : gAt f M 0 = f := rfl
theorem gAt_mem {f : MpF} {M : SnM} (hu : Uniq M) (hz : ∀ p ∈ M, 1 ≤ p.1) {p : Int × (Nat × MpF)} (hp : p ∈ M) : gAt f M p.1 = p.2.2 := by
  have h1 := hz p hp
  have h2 := aget_of_mem hu (x := p.1) (v := p.2) hp
  unfold gAt ofS
  rw [if_neg (by omega), h2]
  rfl
theorem mem_slIs {n : Nat} {g : MpF} {id : Int} {i : It} : i ∈ slIs n g id ↔ ∃ u, u < n ∧ (g u).mask ≠ 0 ∧ i = ⟨2, zKey, zPl, id, (u : Int), g u⟩ := by
  unfold slIs
  rw [List.mem_flatMap]
  constructor
  · rintro ⟨u, hu, hi⟩
    rw [List.mem_range] at hu
    unfold slI at hi
    split at hi
    · cases hi
    · rename_i h
      exact ⟨u, hu, h, by simpa using hi⟩
  · rintro ⟨u, hu, hm, rfl⟩
    refine ⟨u, List.mem_range.2 hu, ?_⟩
    unfold slI
    rw [if_neg hm]
    simp
theorem cnt_pos {n : Nat} {f : MpF} {M : SnM} (hu : Uniq M) (hz : ∀ p ∈ M, 1 ≤ p.1) (K : Key) : cntI (mItems n f M) K ≠ 0 ↔ HasSl n f M K := by
  have e : cntI (mItems n f M) K ≠ 0 ↔ ∃ i ∈ mItems n f M, i.kind = 2 ∧ i.sl.key = K := by
    unfold cntI
    constructor
    · intro h
      obtain ⟨i, hi⟩ := List.exists_mem_of_length_pos (l := (mItems n f M).filter (fun i => i.kind == 2 && decide (i.sl.key = K))) (by omega)
      rw [List.mem_filter] at hi
      exact ⟨i, hi.1, by simpa using hi.2⟩
    · rintro ⟨i, hi, h1, h2⟩
      have := List.length_pos_of_mem ((List.mem_filter (p := fun i : It => i.kind == 2 && decide (i.sl.key = K))).2 ⟨hi, by simp [h1, h2]⟩)
      omega
  rw [e]
  constructor
  · rintro ⟨i, hi, h1, h2⟩
    unfold mItems at hi
    rcases List.mem_append.1 hi with hi | hi
    · unfold mSl at hi
      obtain ⟨id, hid, hi⟩ := List.mem_flatMap.1 hi
      obtain ⟨u, hu', hm, rfl⟩ := mem_slIs.1 hi
      refine ⟨gAt f M id, ?_, u, hu', hm, h2⟩
      rcases List.mem_cons.1 hid with rfl | hid
      · exact .inl rfl
      · have := (sIds_perm M).mem_iff.1 hid
        obtain ⟨p, hp, rfl⟩ := List.mem_map.1 this
        exact .inr ⟨p, hp, (gAt_mem hu hz hp).symm⟩
    · obtain ⟨id, _, rfl⟩ := List.mem_map.1 hi
      simp [snI] at h1
  · rintro ⟨g, hg, u, hu', hm, hk⟩
    rcases hg with rfl | ⟨p, hp, rfl⟩
    · exact ⟨⟨2, zKey, zPl, 0, (u : Int), g u⟩, List.mem_append_left _ (List.mem_flatMap.2 ⟨0, by simp, mem_slIs.2 ⟨u, hu', hm, rfl⟩⟩), rfl, hk⟩
    · refine ⟨⟨2, zKey, zPl, p.1, (u : Int), p.2.2 u⟩, List.mem_append_left _ (List.mem_flatMap.2 ⟨p.1, ?_, mem_slIs.2 ⟨u, hu', ?_, ?_⟩⟩), rfl, hk⟩
      · exact List.mem_cons_of_mem _ ((sIds_perm M).mem_iff.2 (List.mem_map_of_mem hp))
      · rw [gAt_mem hu hz hp]; exact hm
      · rw [gAt_mem hu hz hp]
def SlOk (E : ExM) (s : Sl) : Prop := 1 ≤ s.mask ∧ s.mask ≤ 255 ∧ 0 ≤ s.off ∧ s.off < 16 ∧ ∃ p, aget E s.key = some p ∧ s.off < p.uni
/-- What holds of a state. -/
structure Inv (n : Nat) (E : ExM) (f : MpF) (M : SnM) : Prop where
  uniq : Uniq E
  uniqM : Uniq M
  ids : ∀ p ∈ M, 1 ≤ p.1 ∧ p.1 ≤ 1073741824
  len : M.length ≤ 8
  ref : ∀ K p, aget E K = some p → p.ref = cntI (mItems n f M) K ∧ 1 ≤ p.ref
  may : ∀ K p, aget E K = some p → mayP p = true
  has : ∀ g, IsMap f M g → ∀ u, u < n → (g u).mask ≠ 0 → SlOk E (g u)
  mask : ∀ g, IsMap f M g → ∀ u, 0 ≤ (g u).mask ∧ (g u).mask ≤ 255
theorem Inv.refOk {n : Nat} {E : ExM} {f : MpF} {M : SnM} (h : Inv n E f M) : RefOk E := by
  intro q hq
  have h1 := h.may q.1 q.2 (aget_of_mem h.uniq hq)
  unfold mayP at h1
  simp only [Bool.and_eq_true, decide_eq_true_eq] at h1
  exact h1.2
theorem Inv.idsOk {n : Nat} {E : ExM} {f : MpF} {M : SnM} (h : Inv n E f M) : IdsOk M := ⟨by have := h.len; omega, h.ids⟩
theorem Inv.cnt {n : Nat} {E : ExM} {f : MpF} {M : SnM} (h : Inv n E f M) (K : Key) : cntI (mItems n f M) K ≠ 0 ↔ HasSl n f M K := cnt_pos h.uniqM (fun p hp => (h.ids p hp).1) K
theorem Inv.new (n : Nat) : Inv n [] zF [] := by
  refine ⟨List.Pairwise.nil, List.Pairwise.nil, (by simp), (by simp), ?_, ?_, ?_, ?_⟩
  · intro K p h; simp [aget] at h
  · intro K p h; simp [aget] at h
  · rintro g (rfl | ⟨p, hp, _⟩) u hu hm
    · exact absurd rfl hm
    · cases hp
  · rintro g (rfl | ⟨p, hp, _⟩) u
    · exact ⟨Int.le_refl _, show (0 : Int) ≤ 255 by omega⟩
    · cases hp
/-- The counts set right. -/
theorem inv_fix {n : Nat} {E : ExM} {f f' : MpF} {M M' : SnM} (hn : n ≤ 512) (hu : Uniq E) (huM : Uniq M') (hids : ∀ p ∈ M', 1 ≤ p.1 ∧ p.1 ≤ 1073741824) (hlen : M'.length ≤ 8)
    (ha : ∀ K p, aget E K = some p → p.ref = cntI (mItems n f M) K) (hb : ∀ K p, aget E K = some p → mayP p = true)
    (hc : ∀ g, IsMap f' M' g → ∀ u, u < n → (g u).mask ≠ 0 → SlOk E (g u)) (hw : ∀ g, IsMap f' M' g → ∀ u, 0 ≤ (g u).mask ∧ (g u).mask ≤ 255)
    (hd : ∀ K p, aget E K = some p → cntI (mItems n f M) K = 0 → cntI (mItems n f' M') K ≠ 0) : Inv n (fixE E (deltaC (countC (mItems n f M)) (countC (mItems n f' M')))) f' M' := by
  have hml := mItems_len hn f' M'
  have hl : (mItems n f' M').length ≤ 5000 := by omega
  have hg := fix_get (l := mItems n f M) (l' := mItems n f' M') ha (by omega)
  refine ⟨(fixE_uniq hu _).1, huM, hids, hlen, ?_, ?_, ?_, hw⟩
  · intro K q hq
    rw [hg K] at hq
    cases he : aget E K with
    | none => rw [he] at hq; cases hq
    | some p =>
      rw [he] at hq
      simp only [Option.bind_some] at hq
      split at hq
      · cases hq
      · rename_i h
        injection hq with hq
        subst hq
        have h1 := cntI_nonneg (mItems n f' M') K
        have h2 := hd K p he
        refine ⟨rfl, ?_⟩
        simp only
        by_cases h3 : cntI (mItems n f' M') K = 0
        · exfalso
          by_cases h4 : cntI (mItems n f M) K = 0
          · exact h2 h4 h3
          · exact h ⟨h3, h4⟩
        · omega
  · intro K q hq
    rw [hg K] at hq
    cases he : aget E K with
    | none => rw [he] at hq; cases hq
    | some p =>
      rw [he] at hq
      simp only [Option.bind_some] at hq
      split at hq
      · cases hq
      · injection hq with hq
        subst hq
        have h1 := cntI_nonneg (mItems n f' M') K
        have h2 := cntI_le (mItems n f' M') K
        have h3 := hb K p he
        unfold mayP at h3 ⊢
        simp only [Bool.and_eq_true, decide_eq_true_eq] at h3 ⊢
        omega
  · intro g hgm u hu' hm
    obtain ⟨m1, m2, m3, m4, p, hp, hp2⟩ := hc g hgm u hu' hm
    refine ⟨m1, m2, m3, m4, ⟨p.pos, p.sec, p.uni, cntI (mItems n f' M') (g u).key⟩, ?_, hp2⟩
    rw [hg, hp]
    simp only [Option.bind_some]
    have : cntI (mItems n f' M') (g u).key ≠ 0 := (cnt_pos huM (fun p hp => (hids p hp).1) _).2 ⟨g, hgm, u, hu', hm, rfl⟩
    rw [if_neg (fun h => this h.1)]
theorem dropE_ne {M : SnM} {id : Int} (h : dropE M id ≠ 0) : aget M id = none := by
  unfold dropE at h
  cases hg : aget M id with
  | none => rfl
  | some p => rw [hg] at h; simp at h
/-- An error changes nothing. -/
theorem step_err {n : Nat} {E : ExM} {f : MpF} {M : SnM} {o : OpV} {r : Int} {E1 : ExM} {f' : MpF} {M' : SnM} (h : StepR n E f M o r E1 f' M') (hu : Uniq M) (hr : r ≠ 0) : E1 = E ∧ f' = f ∧ M' = M := by
  rcases h with ⟨hk, rfl, rfl, rfl, rfl⟩ | ⟨hk, rfl, rfl, rfl, rfl⟩ | ⟨hk, rfl, rfl, rfl, h3⟩ | ⟨hk, rfl, rfl, rfl, rfl⟩ | ⟨hk, rfl, rfl, rfl, rfl⟩
  · rw [if_neg hr, if_neg hr]
    exact ⟨rfl, rfl, rfl⟩
  · refine ⟨rfl, ?_, rfl⟩
    unfold clrF
    rw [if_neg hr]
  · refine ⟨rfl, rfl, ?_⟩
    rcases h3 with ⟨_, rfl⟩ | ⟨h3, _⟩
    · rfl
    · exact absurd h3 hr
  · exact ⟨rfl, rfl, adel_none (dropE_ne hr)⟩
  · refine ⟨rfl, ?_, rfl⟩
    unfold backF
    rw [dropE_ne hr]
theorem anM_le (m x : Int) (hm : 0 ≤ m ∧ m ≤ 255) : 0 ≤ anM m x ∧ anM m x ≤ m := by
  have h1 : (BitVec.ofInt 64 m &&& ~~~ BitVec.ofInt 64 x).toNat ≤ m.toNat := by
    rw [BitVec.toNat_and]
    refine Nat.le_trans Nat.and_le_left ?_
    rw [BitVec.toNat_ofInt]
    omega
  unfold anM
  generalize (BitVec.ofInt 64 m &&& ~~~ BitVec.ofInt 64 x).toNat = t at h1
  have h2 : IntKind.i64.wrap (t : Int) = (t : Int) := by simp (disch := omega) only [IntWalk.i64_in]
  rw [h2]
  omega
/-- A slice of which some is left. -/
def SubSl (s t : Sl) : Prop := 0 ≤ s.mask ∧ s.mask ≤ t.mask ∧ (s.mask ≠ 0 → s.key = t.key ∧ s.off = t.off)
theorem SubSl.refl {s : Sl} (h : 0 ≤ s.mask) : SubSl s s := ⟨h, Int.le_refl _, fun _ => ⟨rfl, rfl⟩⟩
theorem SubSl.trans {s t u : Sl} (h : SubSl s t) (k : SubSl t u) : SubSl s u := by
  refine ⟨h.1, Int.le_trans h.2.1 k.2.1, fun hm => ?_⟩
  have h1 := h.2.2 hm
  have h2 := k.2.2 (by have := h.1; have := h.2.1; omega)
  exact ⟨h1.1.trans h2.1, h1.2.trans h2.2⟩
theorem clr1_sub (s : Sl) (a b : Nat) (h : 0 ≤ s.mask ∧ s.mask ≤ 255) : SubSl (clr1 s a b) s := by
  have := anM_le s.mask ((2 : Int) ^ b - (2 : Int) ^ a) h
  unfold clr1
  split
  · exact ⟨Int.le_refl _, h.1, fun hm => absurd rfl hm⟩
  · exact ⟨this.1, this.2, fun _ => ⟨rfl, rfl⟩⟩
theorem clrGo_sub (k : Nat) : ∀ (g : MpF) (a e : Nat), (∀ u, 0 ≤ (g u).mask ∧ (g u).mask ≤ 255) → ∀ u, SubSl (clrGo k g a e u) (g u) := by
  induction k with
  | zero => intro g a e h u; exact SubSl.refl (h u).1
  | succ k ih =>
    intro g a e h u
    unfold clrGo
    split
    · have h1 : ∀ v, SubSl (upd g (a / 8) (clr1 (g (a / 8)) (a % 8) (clrTo a e)) v) (g v) := by
        intro v
        unfold upd
        split
        · rename_i hv; rw [hv]; exact clr1_sub _ _ _ (h _)
        · exact SubSl.refl (h v).1
      refine SubSl.trans (ih _ _ _ (fun v => ⟨(h1 v).1, ?_⟩) u) (h1 u)
      have h2 := (h1 v).2.1
      have h3 := (h v).2
      omega
    · exact SubSl.refl (h u).1
end Go.Proofs.YtgjjdfhoakailaaGreat
namespace Go.Proofs.YtgjjdfhoakailaaGreat
open Go.RowKit Go.Maps Go.Sort Go.Shelf
set_option linter.unusedVariables false
set_option linter.unusedSimpArgs false

theorem frB_may {p : Fr} (h : frB p = true) : mayP p.pl = true ∧ p.pl.ref = 0 := by
  unfold frB inB at h
  unfold mayP
  simp only [Bool.and_eq_true, decide_eq_true_eq] at h ⊢
  omega
theorem find_snoc {α : Type} {l : List α} {p : α → Bool} (x : α) : (l ++ [x]).find? p = (l.find? p).or (if p x then some x else none) := by
  rw [List.find?_append]
  congr 1
  rw [List.find?_cons]
  cases p x <;> rfl
theorem addAll_get {E : ExM} {l : List Fr} (hf : l.all frB = true) (hnd : (l.map (·.key)).Nodup) (ht : thereB E l = false) (K : Key) :
    aget (addAll E l) K = (aget E K).or ((l.find? (fun p => decide (p.key = K))).map (·.pl)) := by
  induction l using snoc_ind generalizing K with
  | nil => simp [addAll]
  | append_singleton l x ih =>
    rw [List.all_append, Bool.and_eq_true] at hf
    rw [List.map_append, List.nodup_append] at hnd
    unfold thereB at ht
    rw [List.any_append, Bool.or_eq_false_iff] at ht
    have ih := fun L => ih hf.1 hnd.1 ht.1 L
    have hx : frB x = true := by simpa using hf.2
    have hxE : aget E x.key = none := by
      have := ht.2
      simp at this
      exact this
    have hxl : l.find? (fun p => decide (p.key = x.key)) = none := List.find?_eq_none.2 (fun p hp => by
      have := hnd.2.2 p.key (List.mem_map_of_mem hp) x.key (by simp)
      simpa using this)
    have hnone : aget (addAll E l) x.key = none := by rw [ih, hxE, hxl]; rfl
    have he : addE (addAll E l) x.key x.pl = 0 := by
      unfold addE
      rw [(frB_may hx).1, hnone]
      rfl
    rw [addAll_snoc]
    unfold addX
    rw [if_pos he, aget_put, find_snoc, ih]
    by_cases h : x.key = K
    · subst h
      rw [if_pos rfl, hxE, hxl]
      simp
    · rw [if_neg h]
      simp [h]
theorem addAll_uniq {E : ExM} (hu : Uniq E) (l : List Fr) : Uniq (addAll E l) := by
  induction l using snoc_ind with
  | nil => exact hu
  | append_singleton l x ih =>
    rw [addAll_snoc]
    unfold addX
    split
    · exact ih.put _ _
    · exact ih
theorem frM_get {l : List Fr} (hnd : (l.map (·.key)).Nodup) (K : Key) : aget (frM l) K = (l.find? (fun p => decide (p.key = K))).map (·.pl.uni) := by
  induction l using snoc_ind with
  | nil => rfl
  | append_singleton l x ih =>
    rw [List.map_append, List.nodup_append] at hnd
    rw [frM_snoc, aget_put, find_snoc, ih hnd.1]
    by_cases h : x.key = K
    · subst h
      have hxl : l.find? (fun p => decide (p.key = x.key)) = none := List.find?_eq_none.2 (fun p hp => by
        have := hnd.2.2 p.key (List.mem_map_of_mem hp) x.key (by simp)
        simpa using this)
      rw [if_pos rfl, hxl]
      simp
    · rw [if_neg h]
      simp [h]
theorem putsB_facts : ∀ (l : List Pu) (least : Int), putsB l least = true → (∀ p ∈ l, least ≤ p.unit ∧ p.unit ≤ 511 ∧ 0 ≤ p.sl.off ∧ p.sl.off ≤ 15 ∧ 1 ≤ p.sl.mask ∧ p.sl.mask ≤ 255) ∧ l.Pairwise (fun p q => p.unit < q.unit)
  | [], _, _ => ⟨by simp, List.Pairwise.nil⟩
  | p :: r, least, h => by
    unfold putsB puB inB at h
    simp only [Bool.and_eq_true, decide_eq_true_eq] at h
    have ih := putsB_facts r (p.unit + 1) h.2
    refine ⟨fun q hq => ?_, List.pairwise_cons.2 ⟨fun q hq => ?_, ih.2⟩⟩
    · rcases List.mem_cons.1 hq with rfl | hq
      · omega
      · have := ih.1 q hq
        omega
    · have := ih.1 q hq
      omega
theorem setAll_get {n : Nat} {f : MpF} {l : List Pu} (hp : l.Pairwise (fun p q => p.unit < q.unit)) (hok : ∀ p ∈ l, setE n p.unit p.sl = 0) (hz : ∀ p ∈ l, 0 ≤ p.unit) (u : Nat) :
    setAll n f l u = ((l.find? (fun p => decide (p.unit = (u : Int)))).map (·.sl)).getD (f u) := by
  induction l using snoc_ind with
  | nil => rfl
  | append_singleton l x ih =>
    have hpp := List.pairwise_append.1 hp
    have ih := ih hpp.1 (fun p h => hok p (List.mem_append_left _ h)) (fun p h => hz p (List.mem_append_left _ h))
    rw [setAll_snoc, find_snoc]
    unfold setF
    have hx := hz x (by simp)
    rw [if_pos (hok x (by simp))]
    unfold upd
    by_cases h : x.unit = (u : Int)
    · have hxl : l.find? (fun p => decide (p.unit = (u : Int))) = none := List.find?_eq_none.2 (fun p hp => by
        have := hpp.2.2 p hp x (by simp)
        rw [h] at this
        simp
        omega)
      rw [if_pos (by omega), hxl]
      simp [h]
    · rw [if_neg (by omega), ih]
      simp [h]
structure WrOk (n : Nat) (E : ExM) (o : OpV) : Prop where
  fr : o.news.all frB = true
  nd : (o.news.map (·.key)).Nodup
  puts : ∀ p ∈ o.puts, 0 ≤ p.unit ∧ p.unit ≤ 511 ∧ 0 ≤ p.sl.off ∧ p.sl.off ≤ 15 ∧ 1 ≤ p.sl.mask ∧ p.sl.mask ≤ 255
  sorted : o.puts.Pairwise (fun p q => p.unit < q.unit)
  there : thereB E o.news = false
  ok : ∀ p ∈ o.puts, p.unit < n ∧ p.sl.off < uniOf E (frM o.news) p.sl.key
  wanted : ∀ p ∈ o.news, ∃ q ∈ o.puts, q.sl.key = p.key
theorem wr_ok {n : Nat} {E : ExM} {o : OpV} (hr : writeB o = true) (h : wrE n E o = 0) : WrOk n E o := by
  unfold writeB newsB at hr
  simp only [Bool.and_eq_true, decide_eq_true_eq] at hr
  obtain ⟨⟨⟨⟨h1, h2⟩, h3⟩, _⟩, _⟩ := hr
  have h4 := putsB_facts _ _ h3
  unfold wrE at h
  split at h
  · cases h
  · rename_i ht
    split at h
    · cases h
    · rename_i hp
      split at h
      · cases h
      · rename_i hw
        have hp' : o.puts.all (putOk n E (frM o.news)) = true := by simpa using hp
        have hw' : o.news.all (wantedB o.puts) = true := by simpa using hw
        refine ⟨h1, h2, h4.1, h4.2, by simpa using ht, fun p hpm => ?_, fun p hpm => ?_⟩
        · have := List.all_eq_true.1 hp' p hpm
          unfold putOk at this
          simpa using this
        · have := List.all_eq_true.1 hw' p hpm
          unfold wantedB at this
          obtain ⟨q, hq, e⟩ := List.mem_map.1 (of_decide_eq_true this)
          exact ⟨q, hq, e⟩
theorem WrOk.set {n : Nat} {E : ExM} {o : OpV} (h : WrOk n E o) (f : MpF) (u : Nat) : setAll n f o.puts u = ((o.puts.find? (fun p => decide (p.unit = (u : Int)))).map (·.sl)).getD (f u) :=
  setAll_get h.sorted (fun p hp => by
    have h1 := h.puts p hp
    have h2 := (h.ok p hp).1
    unfold setE
    rw [if_pos (by omega)]) (fun p hp => (h.puts p hp).1) u
theorem WrOk.set_at {n : Nat} {E : ExM} {o : OpV} (h : WrOk n E o) (f : MpF) {p : Pu} (hp : p ∈ o.puts) : setAll n f o.puts p.unit.toNat = p.sl := by
  rw [h.set]
  have h1 := (h.puts p hp).1
  have : o.puts.find? (fun q => decide (q.unit = ((p.unit.toNat : Nat) : Int))) = some p := by
    have hs := h.sorted
    clear h
    revert hp hs
    generalize o.puts = l
    intro hp hs
    induction l with
    | nil => cases hp
    | cons x l ih =>
      obtain ⟨h2, h3⟩ := List.pairwise_cons.1 hs
      rw [List.find?_cons]
      rcases List.mem_cons.1 hp with rfl | hp
      · rw [decide_eq_true (by omega)]
      · have := h2 p hp
        rw [decide_eq_false (by omega)]
        exact ih hp h3
  rw [this]
  rfl
end Go.Proofs.YtgjjdfhoakailaaGreat
namespace Go.Proofs.YtgjjdfhoakailaaGreat
open Go.RowKit Go.Maps Go.Sort Go.Shelf
set_option linter.unusedVariables false
set_option linter.unusedSimpArgs false

theorem aget_mem_some {α β : Type} [DecidableEq α] {M : List (α × β)} (hu : Uniq M) {p : α × β} (h : p ∈ M) : aget M p.1 = some p.2 := aget_of_mem hu (x := p.1) (v := p.2) h
theorem SlOk.mono {E E1 : ExM} {s : Sl} (h : SlOk E s) (hE : ∀ K p, aget E K = some p → aget E1 K = some p) : SlOk E1 s := by
  obtain ⟨h1, h2, h3, h4, p, hp, h5⟩ := h
  exact ⟨h1, h2, h3, h4, p, hE _ _ hp, h5⟩
theorem SlOk.sub {E : ExM} {s t : Sl} (h : SlOk E t) (hs : SubSl s t) (hm : s.mask ≠ 0) : SlOk E s := by
  obtain ⟨h1, h2, h3, h4, p, hp, h5⟩ := h
  have h6 := hs.2.2 hm
  have h7 := hs.1
  have h8 := hs.2.1
  refine ⟨by omega, by omega, by rw [h6.2]; exact h3, by rw [h6.2]; exact h4, p, by rw [h6.1]; exact hp, by rw [h6.2]; exact h5⟩
theorem keep_inv {n : Nat} {E : ExM} {f f' : MpF} {M M' : SnM} (hn : n ≤ 512) (h : Inv n E f M) (huM : Uniq M') (hids : ∀ p ∈ M', 1 ≤ p.1 ∧ p.1 ≤ 1073741824) (hlen : M'.length ≤ 8)
    (hc : ∀ g, IsMap f' M' g → ∀ u, u < n → (g u).mask ≠ 0 → SlOk E (g u)) (hw : ∀ g, IsMap f' M' g → ∀ u, 0 ≤ (g u).mask ∧ (g u).mask ≤ 255) :
    Inv n (fixE E (deltaC (countC (mItems n f M)) (countC (mItems n f' M')))) f' M' :=
  inv_fix hn h.uniq huM hids hlen (fun K p hp => (h.ref K p hp).1) h.may hc hw (fun K p hp h0 => by
    have := h.ref K p hp
    omega)
theorem step_inv {n : Nat} {E : ExM} {f : MpF} {M : SnM} {o : OpV} {E1 : ExM} {f' : MpF} {M' : SnM} (hn : n ≤ 512) (h : Inv n E f M) (ho : rightB o = true) (hs : StepR n E f M o 0 E1 f' M') :
    Inv n (fixE E1 (deltaC (countC (mItems n f M)) (countC (mItems n f' M')))) f' M' := by
  obtain ⟨_, hw, hsn⟩ := right_kind ho
  rcases hs with ⟨hk, h0, rfl, rfl, rfl⟩ | ⟨hk, rfl, h0, rfl, rfl⟩ | ⟨hk, rfl, h0, rfl, h3⟩ | ⟨hk, rfl, h0, rfl, rfl⟩ | ⟨hk, rfl, h0, rfl, rfl⟩
  · -- a write
    rw [if_pos h0.symm, if_pos h0.symm]
    have W := wr_ok (hw hk) h0.symm
    have hget := addAll_get W.fr W.nd W.there
    have hold : ∀ K p, aget E K = some p → aget (addAll E o.news) K = some p := fun K p hp => by rw [hget, hp]; rfl
    have hnew : ∀ K p, aget (addAll E o.news) K = some p → aget E K = some p ∨ (aget E K = none ∧ ∃ x ∈ o.news, x.key = K ∧ x.pl = p) := fun K p hp => by
      rw [hget] at hp
      cases he : aget E K with
      | some q => rw [he] at hp; exact .inl hp
      | none =>
        rw [he] at hp
        simp only [Option.none_or] at hp
        cases hf : o.news.find? (fun p => decide (p.key = K)) with
        | none => rw [hf] at hp; cases hp
        | some x =>
          rw [hf] at hp
          exact .inr ⟨rfl, x, List.mem_of_find?_eq_some hf, by simpa using List.find?_some hf, by simpa using hp⟩
    have hcnt0 : ∀ K, aget E K = none → cntI (mItems n f M') K = 0 := fun K hK => by
      by_cases hc : cntI (mItems n f M') K = 0
      · exact hc
      · obtain ⟨g, hg, u, hu, hm, hk⟩ := (h.cnt K).1 hc
        obtain ⟨_, _, _, _, p, hp, _⟩ := h.has g hg u hu hm
        rw [hk, hK] at hp
        cases hp
    refine inv_fix hn (addAll_uniq h.uniq _) h.uniqM h.ids h.len ?_ ?_ ?_ ?_ ?_
    · intro K p hp
      rcases hnew K p hp with hp | ⟨he, x, hx, _, rfl⟩
      · exact (h.ref K p hp).1
      · rw [(frB_may (List.all_eq_true.1 W.fr x hx)).2, hcnt0 K he]
    · intro K p hp
      rcases hnew K p hp with hp | ⟨he, x, hx, _, rfl⟩
      · exact h.may K p hp
      · exact (frB_may (List.all_eq_true.1 W.fr x hx)).1
    · rintro g (rfl | ⟨p, hp, rfl⟩) u hu hm
      · rw [W.set] at hm ⊢
        cases hf : o.puts.find? (fun p => decide (p.unit = (u : Int))) with
        | none =>
          rw [hf] at hm
          exact (h.has f (.inl rfl) u hu hm).mono hold
        | some x =>
          have hx := List.mem_of_find?_eq_some hf
          have h1 := W.puts x hx
          have h2 := W.ok x hx
          simp only [Option.map_some, Option.getD_some]
          refine ⟨by omega, by omega, by omega, by omega, ?_⟩
          have h3 := h2.2
          unfold uniOf at h3
          rw [frM_get W.nd] at h3
          cases hf2 : o.news.find? (fun p => decide (p.key = x.sl.key)) with
          | none =>
            rw [hf2] at h3
            simp only [Option.map_none] at h3
            cases he : aget E x.sl.key with
            | none =>
              rw [he] at h3
              simp [zPl] at h3
              omega
            | some p =>
              rw [he] at h3
              exact ⟨p, hold _ _ he, h3⟩
          | some y =>
            rw [hf2] at h3
            have hy := List.mem_of_find?_eq_some hf2
            have hyk : y.key = x.sl.key := by simpa using List.find?_some hf2
            have hyE : aget E x.sl.key = none := by
              have := W.there
              unfold thereB at this
              have := List.any_eq_false.1 this y hy
              rw [hyk] at this
              simpa using this
            refine ⟨y.pl, ?_, h3⟩
            rw [hget, hyE, hf2]
            rfl
      · exact (h.has p.2.2 (.inr ⟨p, hp, rfl⟩) u hu hm).mono hold
    · rintro g (rfl | ⟨p, hp, rfl⟩) u
      · rw [W.set]
        cases hf : o.puts.find? (fun p => decide (p.unit = (u : Int))) with
        | none => exact h.mask f (.inl rfl) u
        | some x =>
          have h1 := W.puts x (List.mem_of_find?_eq_some hf)
          simp only [Option.map_some, Option.getD_some]
          omega
      · exact h.mask p.2.2 (.inr ⟨p, hp, rfl⟩) u
    · intro K p hp h00
      rcases hnew K p hp with hp | ⟨he, x, hx, rfl, rfl⟩
      · have := h.ref K p hp
        omega
      · obtain ⟨q, hq, hqk⟩ := W.wanted x hx
        refine (cnt_pos h.uniqM (fun p hp => (h.ids p hp).1) _).2 ⟨_, .inl rfl, q.unit.toNat, ?_, ?_, ?_⟩
        · have h1 := W.puts q hq
          have h2 := W.ok q hq
          omega
        · rw [W.set_at f hq]
          have := W.puts q hq
          omega
        · rw [W.set_at f hq]
          exact hqk
  · -- a discard
    have hsub : ∀ u, SubSl (clrF n f o.pos o.n u) (f u) := by
      unfold clrF
      rw [if_pos h0.symm]
      exact clrGo_sub _ _ _ _ (h.mask f (.inl rfl))
    refine keep_inv hn h h.uniqM h.ids h.len ?_ ?_
    · rintro g (rfl | ⟨p, hp, rfl⟩) u hu hm
      · have h1 := hsub u
        exact (h.has f (.inl rfl) u hu (by have := h1.1; have := h1.2.1; omega)).sub h1 hm
      · exact h.has p.2.2 (.inr ⟨p, hp, rfl⟩) u hu hm
    · rintro g (rfl | ⟨p, hp, rfl⟩) u
      · have h1 := hsub u
        have h2 := h.mask f (.inl rfl) u
        exact ⟨h1.1, Int.le_trans h1.2.1 h2.2⟩
      · exact h.mask p.2.2 (.inr ⟨p, hp, rfl⟩) u
  · -- a snapshot
    rcases h3 with ⟨h3, _⟩ | ⟨h3, g0, rfl⟩
    · exact absurd h0.symm h3
    · have hmem : ∀ p ∈ aput M o.snap (g0, f'), p = (o.snap, (g0, f')) ∨ p ∈ M := fun p hp => by
        unfold aput at hp
        rcases List.mem_cons.1 hp with hp | hp
        · exact .inl hp
        · exact .inr (mem_adel hp)
      have hmap : ∀ g, IsMap f' (aput M o.snap (g0, f')) g → IsMap f' M g := by
        rintro g (rfl | ⟨p, hp, rfl⟩)
        · exact .inl rfl
        · rcases hmem p hp with rfl | hp
          · exact .inl rfl
          · exact .inr ⟨p, hp, rfl⟩
      have hl : M.length < 8 := by
        unfold snapE at h3
        split at h3
        · cases h3
        · split at h3
          · cases h3
          · split at h3
            · cases h3
            · omega
      refine keep_inv hn h (h.uniqM.put _ _) ?_ ?_ (fun g hg => h.has g (hmap g hg)) (fun g hg => h.mask g (hmap g hg))
      · intro p hp
        rcases hmem p hp with rfl | hp
        · exact hsn (by omega)
        · exact h.ids p hp
      · have := aput_len M o.snap (g0, f')
        omega
  · -- a deletion
    have hmap : ∀ g, IsMap f' (adel M o.snap) g → IsMap f' M g := by
      rintro g (rfl | ⟨p, hp, rfl⟩)
      · exact .inl rfl
      · exact .inr ⟨p, mem_adel hp, rfl⟩
    exact keep_inv hn h (h.uniqM.del _) (fun p hp => h.ids p (mem_adel hp)) (Nat.le_trans (adel_le' _ _) h.len) (fun g hg => h.has g (hmap g hg)) (fun g hg => h.mask g (hmap g hg))
  · -- a rollback
    have hmap : ∀ g, IsMap (backF f M' o.snap) M' g → IsMap f M' g := by
      rintro g (rfl | ⟨p, hp, rfl⟩)
      · unfold backF
        cases hg : aget M' o.snap with
        | none => exact .inl rfl
        | some p => exact .inr ⟨_, aget_mem hg, rfl⟩
      · exact .inr ⟨p, hp, rfl⟩
    exact keep_inv hn h h.uniqM h.ids h.len (fun g hg => h.has g (hmap g hg)) (fun g hg => h.mask g (hmap g hg))
theorem do_inv {n : Nat} {E : ExM} {f : MpF} {M : SnM} {o : OpV} {r : Int} {E' : ExM} {f' : MpF} {M' : SnM} (hn : n ≤ 512) (h : Inv n E f M) (hd : DoR n E f M o r E' f' M') : Inv n E' f' M' ∧ E'.length ≤ E.length + 18 := by
  rcases hd with ⟨_, rfl, rfl, rfl, rfl⟩ | ⟨ho, E1, hs, rfl⟩
  · exact ⟨h, by omega⟩
  · by_cases hr : r = 0
    · subst hr
      rw [if_pos rfl]
      refine ⟨step_inv hn h ho hs, ?_⟩
      have hE1 : Uniq E1 ∧ E1.length ≤ E.length + 18 := by
        obtain ⟨_, hw, _⟩ := right_kind ho
        rcases hs with ⟨hk, _, rfl, _⟩ | ⟨_, rfl, _⟩ | ⟨_, rfl, _⟩ | ⟨_, rfl, _⟩ | ⟨_, rfl, _⟩
        · have h1 := addAll_len E o.news
          have h2 : o.news.length ≤ 18 := by
            have := hw hk
            unfold writeB at this
            simp only [Bool.and_eq_true, decide_eq_true_eq] at this
            exact this.1.2
          split
          · exact ⟨addAll_uniq h.uniq _, by omega⟩
          · exact ⟨h.uniq, by omega⟩
        all_goals exact ⟨h.uniq, by omega⟩
      exact Nat.le_trans (fixE_uniq hE1.1 _).2 hE1.2
    · rw [if_neg hr]
      obtain ⟨rfl, rfl, rfl⟩ := step_err hs h.uniqM hr
      exact ⟨h, by omega⟩
/-- An error changes nothing. -/
theorem do_err {n : Nat} {E : ExM} {f : MpF} {M : SnM} {o : OpV} {r : Int} {E' : ExM} {f' : MpF} {M' : SnM} (h : Inv n E f M) (hd : DoR n E f M o r E' f' M') (hr : r ≠ 0) : E' = E ∧ f' = f ∧ M' = M := by
  rcases hd with ⟨_, rfl, rfl, rfl, rfl⟩ | ⟨ho, E1, hs, rfl⟩
  · exact ⟨rfl, rfl, rfl⟩
  · rw [if_neg hr]
    exact step_err hs h.uniqM hr
end Go.Proofs.YtgjjdfhoakailaaGreat
namespace Go.Proofs.YtgjjdfhoakailaaGreat
open Go.RowKit Go.Maps Go.Sort Go.Shelf
set_option linter.unusedVariables false
set_option linter.unusedSimpArgs false

theorem cntI_perm {l r : List It} (h : l.Perm r) (K : Key) : cntI l K = cntI r K := by
  unfold cntI
  rw [(h.filter _).length_eq]
theorem cntI_flat {α : Type} (F : α → List It) (K : Key) : ∀ L : List α, cntI (L.flatMap F) K = (L.map (fun x => cntI (F x) K)).sum
  | [] => rfl
  | x :: L => by rw [List.flatMap_cons, cntI_append, List.map_cons, List.sum_cons, cntI_flat F K L]
theorem cntI_sn (ids : List Int) (K : Key) : cntI (ids.map snI) K = 0 := by
  unfold cntI
  rw [List.filter_eq_nil_iff.2 (fun i hi => by obtain ⟨id, _, rfl⟩ := List.mem_map.1 hi; simp [snI])]
  rfl
/-- How many slices of a map have a key. -/
def cS (n : Nat) (g : MpF) (K : Key) : Int := cntI (slIs n g 0) K
theorem cnt_slIs (n : Nat) (g : MpF) (id : Int) (K : Key) : cntI (slIs n g id) K = cS n g K := by
  unfold cS slIs
  rw [cntI_flat, cntI_flat]
  congr 1
  apply List.map_congr_left
  intro u _
  unfold slI
  split
  · rfl
  · unfold cntI
    simp only [List.filter_cons, List.filter_nil]
    split <;> simp_all
theorem cnt_mItems (n : Nat) (f : MpF) {M : SnM} (hu : Uniq M) (hz : ∀ p ∈ M, 1 ≤ p.1) (K : Key) : cntI (mItems n f M) K = cS n f K + (M.map (fun p => cS n p.2.2 K)).sum := by
  unfold mItems mSl
  rw [cntI_append, cntI_sn, List.flatMap_cons, cntI_append, gAt_zero, cnt_slIs, cntI_perm (List.Perm.flatMap_right _ (sIds_perm M)), cntI_flat, List.map_map, Int.add_zero]
  congr 2
  apply List.map_congr_left
  intro p hp
  show cntI (slIs n (gAt f M p.1) p.1) K = _
  rw [cnt_slIs, gAt_mem hu hz hp]
theorem Inv.count {n : Nat} {E : ExM} {f : MpF} {M : SnM} (h : Inv n E f M) (K : Key) : cntI (mItems n f M) K = cS n f K + (M.map (fun p => cS n p.2.2 K)).sum := cnt_mItems n f h.uniqM (fun p hp => (h.ids p hp).1) K
/-- How often an extent is wanted. -/
def wantedN (E : ExM) (K : Key) : Int := ((aget E K).getD zPl).ref
theorem Inv.wanted {n : Nat} {E : ExM} {f : MpF} {M : SnM} (h : Inv n E f M) (K : Key) : wantedN E K = cntI (mItems n f M) K := by
  unfold wantedN
  cases hg : aget E K with
  | some p => exact (h.ref K p hg).1
  | none =>
    by_cases hc : cntI (mItems n f M) K = 0
    · rw [hc]; rfl
    · obtain ⟨g, hgm, u, hu, hm, hk⟩ := (h.cnt K).1 hc
      obtain ⟨_, _, _, _, p, hp, _⟩ := h.has g hgm u hu hm
      rw [hk, hg] at hp
      cases hp
theorem Inv.isSome {n : Nat} {E : ExM} {f : MpF} {M : SnM} (h : Inv n E f M) (K : Key) : (aget E K).isSome = decide (cntI (mItems n f M) K ≠ 0) := by
  have h1 := h.wanted K
  unfold wantedN at h1
  cases hg : aget E K with
  | some p =>
    have := (h.ref K p hg).2
    rw [hg] at h1
    simp only [Option.getD_some] at h1
    rw [decide_eq_true (by omega)]
    rfl
  | none =>
    rw [hg] at h1
    rw [decide_eq_false (by rw [← h1]; simp [zPl])]
    rfl
theorem nil_of_none {α β : Type} [DecidableEq α] {M : List (α × β)} (h : ∀ K, aget M K = none) : M = [] := by
  cases M with
  | nil => rfl
  | cons p M => have := h p.1; simp [aget] at this

def wK : Key := ⟨9 :: List.replicate 31 0, by simp, by intro z hz; simp at hz; omega⟩
def wOp : OpV := ⟨1, 0, 0, 0, [⟨wK, ⟨500, 3, 2, 0⟩⟩], [⟨0, ⟨wK, 0, 255⟩⟩, ⟨1, ⟨wK, 1, 15⟩⟩]⟩
def sOp (k p n s : Int) : OpV := ⟨k, p, n, s, [], []⟩
def wF : MpF := upd (upd zF 0 ⟨wK, 0, 255⟩) 1 ⟨wK, 1, 15⟩
theorem wOp_right : rightB wOp = true := by decide +kernel
theorem wOp_err : wrE 4 [] wOp = 0 := by decide +kernel
theorem wOp_set : setAll 4 zF wOp.puts = wF := rfl
theorem wF_cnt : cS 4 wF wK = 2 := by decide +kernel
theorem wF_clr : clrE 4 0 16 = 0 ∧ cS 4 (clrF 4 wF 0 16) wK = 0 := by decide +kernel
theorem sub_cnt {n : Nat} {g : MpF} {K : Key} (h : ∀ u, u < n → (g u).mask ≠ 0 → (g u).key ≠ K) : cS n g K = 0 := by
  have : ¬ cS n g K ≠ 0 := by
    intro hc
    have hm := (cnt_pos (n := n) (f := g) (M := []) List.Pairwise.nil (by simp) K).1 (by rw [cnt_mItems n g List.Pairwise.nil (by simp)]; simpa using hc)
    obtain ⟨g', hg, u, hu, h1, h2⟩ := hm
    rcases hg with rfl | ⟨p, hp, _⟩
    · exact h u hu h1 h2
    · cases hp
  omega
theorem do_write {n : Nat} {E : ExM} {f : MpF} {M : SnM} {o : OpV} {r : Int} {E' : ExM} {f' : MpF} {M' : SnM} (hd : DoR n E f M o r E' f' M') (hr : rightB o = true) (hk : o.kind = 1) : r = wrE n E o ∧ f' = (if wrE n E o = 0 then setAll n f o.puts else f) ∧ M' = M := by
  rcases hd with ⟨h, _⟩ | ⟨_, E1, hs, _⟩
  · rw [hr] at h; cases h
  · rcases hs with ⟨_, h1, _, h2, h3⟩ | ⟨h, _⟩ | ⟨h, _⟩ | ⟨h, _⟩ | ⟨h, _⟩
    · exact ⟨h1, h2, h3⟩
    all_goals omega
theorem do_discard {n : Nat} {E : ExM} {f : MpF} {M : SnM} {o : OpV} {r : Int} {E' : ExM} {f' : MpF} {M' : SnM} (hd : DoR n E f M o r E' f' M') (hr : rightB o = true) (hk : o.kind = 2) : r = clrE n o.pos o.n ∧ f' = clrF n f o.pos o.n ∧ M' = M := by
  rcases hd with ⟨h, _⟩ | ⟨_, E1, hs, _⟩
  · rw [hr] at h; cases h
  · rcases hs with ⟨h, _⟩ | ⟨_, _, h1, h2, h3⟩ | ⟨h, _⟩ | ⟨h, _⟩ | ⟨h, _⟩
    · omega
    · exact ⟨h1, h2, h3⟩
    all_goals omega
theorem do_snap {n : Nat} {E : ExM} {f : MpF} {M : SnM} {o : OpV} {r : Int} {E' : ExM} {f' : MpF} {M' : SnM} (hd : DoR n E f M o r E' f' M') (hr : rightB o = true) (hk : o.kind = 3) : SnapR f M o.snap r f' M' := by
  rcases hd with ⟨h, _⟩ | ⟨_, E1, hs, _⟩
  · rw [hr] at h; cases h
  · rcases hs with ⟨h, _⟩ | ⟨h, _⟩ | ⟨_, _, h1⟩ | ⟨h, _⟩ | ⟨h, _⟩
    · omega
    · omega
    · exact h1
    all_goals omega
theorem do_drop {n : Nat} {E : ExM} {f : MpF} {M : SnM} {o : OpV} {r : Int} {E' : ExM} {f' : MpF} {M' : SnM} (hd : DoR n E f M o r E' f' M') (hr : rightB o = true) (hk : o.kind = 4) : r = dropE M o.snap ∧ f' = f ∧ M' = adel M o.snap := by
  rcases hd with ⟨h, _⟩ | ⟨_, E1, hs, _⟩
  · rw [hr] at h; cases h
  · rcases hs with ⟨h, _⟩ | ⟨h, _⟩ | ⟨h, _⟩ | ⟨_, _, h1⟩ | ⟨h, _⟩
    · omega
    · omega
    · omega
    · exact h1
    · omega
theorem do_back {n : Nat} {E : ExM} {f : MpF} {M : SnM} {o : OpV} {r : Int} {E' : ExM} {f' : MpF} {M' : SnM} (hd : DoR n E f M o r E' f' M') (hr : rightB o = true) (hk : o.kind = 5) : r = dropE M o.snap ∧ f' = backF f M o.snap ∧ M' = M := by
  rcases hd with ⟨h, _⟩ | ⟨_, E1, hs, _⟩
  · rw [hr] at h; cases h
  · rcases hs with ⟨h, _⟩ | ⟨h, _⟩ | ⟨h, _⟩ | ⟨h, _⟩ | ⟨_, _, h1⟩
    · omega
    · omega
    · omega
    · omega
    · exact h1
/-- Step by step: what is told of the state that wakes. -/
structure Wk1 (E : ExM) (f : MpF) (M : SnM) : Prop where
  inv : Inv 4 E f M
  f : f = wF
  M : M = []
theorem wake1 {r : Int} {E' : ExM} {f' : MpF} {M' : SnM} (hd : DoR 4 [] zF [] wOp r E' f' M') : r = 0 ∧ Wk1 E' f' M' ∧ wantedN E' wK = 2 := by
  obtain ⟨h1, h2, h3⟩ := do_write hd wOp_right rfl
  rw [wOp_err] at h1 h2
  rw [if_pos rfl, wOp_set] at h2
  have hi := (do_inv (by omega) (Inv.new 4) hd).1
  refine ⟨h1, ⟨hi, h2, h3⟩, ?_⟩
  rw [hi.wanted, hi.count, h2, h3, wF_cnt]
  rfl
theorem wake2 {E : ExM} {f : MpF} {M : SnM} (h : Wk1 E f M) {r : Int} {E' : ExM} {f' : MpF} {M' : SnM} (hd : DoR 4 E f M wOp r E' f' M') : r = 7 ∧ Wk1 E' f' M' := by
  obtain ⟨h1, h2, h3⟩ := do_write hd wOp_right rfl
  have h0 : (aget E wK).isSome = true := by
    rw [h.inv.isSome, h.inv.count, h.f, h.M, wF_cnt]
    rfl
  have ht : thereB E wOp.news = true := by simp [thereB, wOp, h0]
  have h1' : r = 7 := by rw [h1]; exact if_pos ht
  obtain ⟨rfl, rfl, rfl⟩ := do_err h.inv hd (by omega)
  exact ⟨h1', h⟩
structure Wk3 (E : ExM) (f : MpF) (M : SnM) : Prop where
  inv : Inv 4 E f M
  f : f = wF
  M : ∃ g, M = [(1, (g, wF))]
theorem wake3 {E : ExM} {f : MpF} {M : SnM} (h : Wk1 E f M) {r : Int} {E' : ExM} {f' : MpF} {M' : SnM} (hd : DoR 4 E f M (sOp 3 0 0 1) r E' f' M') : r = 0 ∧ Wk3 E' f' M' ∧ wantedN E' wK = 4 := by
  obtain ⟨h1, h2, h3⟩ := do_snap hd rfl rfl
  have he : snapE M (sOp 3 0 0 1).snap = 0 := by rw [h.M]; rfl
  have hi := (do_inv (by omega) h.inv hd).1
  rcases h3 with ⟨h3, _⟩ | ⟨_, g, h3⟩
  · exact absurd he h3
  · have hM : M' = [(1, (g, wF))] := by rw [h3, h.M, h.f]; rfl
    have hf : f' = wF := h2.trans h.f
    refine ⟨h1.trans he, ⟨hi, hf, g, hM⟩, ?_⟩
    rw [hi.wanted, hi.count, hf, hM, wF_cnt, List.map_cons, List.map_nil]
    show (2 : Int) + (cS 4 wF wK + 0) = 4
    rw [wF_cnt]
    rfl
structure Wk4 (E : ExM) (f : MpF) (M : SnM) : Prop where
  inv : Inv 4 E f M
  f : f = clrF 4 wF 0 16
  M : ∃ g, M = [(1, (g, wF))]
theorem wake4 {E : ExM} {f : MpF} {M : SnM} (h : Wk3 E f M) {r : Int} {E' : ExM} {f' : MpF} {M' : SnM} (hd : DoR 4 E f M (sOp 2 0 16 0) r E' f' M') : r = 0 ∧ Wk4 E' f' M' ∧ wantedN E' wK = 2 := by
  obtain ⟨h1, h2, h3⟩ := do_discard hd rfl rfl
  have hi := (do_inv (by omega) h.inv hd).1
  obtain ⟨g, hM⟩ := h.M
  rw [h.f] at h2
  refine ⟨h1.trans wF_clr.1, ⟨hi, h2, g, h3.trans hM⟩, ?_⟩
  rw [hi.wanted, hi.count, h2, h3, hM, List.map_cons, List.map_nil]
  show cS 4 (clrF 4 wF 0 16) wK + (cS 4 wF wK + 0) = 2
  rw [wF_clr.2, wF_cnt]
  rfl
theorem wake5 {E : ExM} {f : MpF} {M : SnM} (h : Wk4 E f M) {r : Int} {E' : ExM} {f' : MpF} {M' : SnM} (hd : DoR 4 E f M (sOp 5 0 0 2) r E' f' M') : r = 13 ∧ Wk4 E' f' M' := by
  obtain ⟨h1, h2, h3⟩ := do_back hd rfl rfl
  obtain ⟨g, hM⟩ := h.M
  have he : r = 13 := by rw [h1, hM]; rfl
  obtain ⟨rfl, rfl, rfl⟩ := do_err h.inv hd (by omega)
  exact ⟨he, h⟩
theorem wF_clr_all : ∀ u, u < 4 → (clrF 4 wF 0 16 u).mask = 0 := by decide +kernel
theorem wake6 {E : ExM} {f : MpF} {M : SnM} (h : Wk4 E f M) {r : Int} {E' : ExM} {f' : MpF} {M' : SnM} (hd : DoR 4 E f M (sOp 4 0 0 1) r E' f' M') : r = 0 ∧ E' = [] ∧ M' = [] ∧ mItems 4 f' M' = [] := by
  obtain ⟨h1, h2, h3⟩ := do_drop hd rfl rfl
  obtain ⟨g, hM⟩ := h.M
  have hi := (do_inv (by omega) h.inv hd).1
  rw [h.f] at h2
  have hM' : M' = [] := by rw [h3, hM]; rfl
  refine ⟨by rw [h1, hM]; rfl, nil_of_none (fun K => ?_), hM', ?_⟩
  · have := hi.isSome K
    rw [hi.count, h2, hM', sub_cnt (fun u hu hm => absurd (wF_clr_all u hu) hm)] at this
    simpa using this
  · rw [hM', h2]
    unfold mItems mSl sIds
    have e0 : slIs 4 (clrF 4 wF 0 16) 0 = [] := by
      unfold slIs
      rw [List.flatMap_eq_nil_iff]
      intro u hu
      unfold slI
      rw [if_pos (wF_clr_all u (List.mem_range.1 hu))]
    simp only [List.map_nil, List.mergeSort_nil, List.flatMap_cons, List.flatMap_nil, gAt_zero, e0, List.append_nil]
end Go.Proofs.YtgjjdfhoakailaaGreat
