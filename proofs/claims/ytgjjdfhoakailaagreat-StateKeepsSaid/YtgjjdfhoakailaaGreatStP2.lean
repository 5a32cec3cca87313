/-
  state, plain: what holds of a state whatever is done (counts, places, slices).
-/
import Derived.Test.YtgjjdfhoakailaaGreatStP1
import Derived.Test.YtgjjdfhoakailaaGreatStS3
namespace Go.Proofs.YtgjjdfhoakailaaGreat
open Go.RowKit Go.Maps Go.Sort Go.Shelf
set_option linter.unusedVariables false
set_option linter.unusedSimpArgs false

/-- A map of the state: the current one, or a snapshot's. -/
def IsMap (f : MpF) (M : SnM) (g : MpF) : Prop := g = f ∨ ∃ p ∈ M, p.2.2 = g
def HasSl (n : Nat) (f : MpF) (M : SnM) (K : Key) : Prop := ∃ g, IsMap f M g ∧ ∃ u, u < n ∧ (g u).mask ≠ 0 ∧ (g u).key = K
theorem gAt_zero (f : MpF) (M : SnM) : gAt f M 0 = f := rfl
theorem gAt_mem {f : MpF} {M : SnM} (hu : Uniq M) (hz : ∀ p ∈ M, 1 ≤ p.1) {p : Int × (Nat × MpF)} (hp : p ∈ M) : gAt f M p.1 = p.2.2 := by
  have h1 := hz p hp
  have h2 := aget_of_mem hu (x := p.1) (v := p.2) hp
  unfold gAt ofS
  rw [if_neg (by omega), h2]
  rfl
theorem mem_slIs {n : Nat} {g : MpF} {id : Int} {i : It} : i ∈ slIs n g id ↔ ∃ u, u < n ∧ (g u).mask ≠ 0 ∧ i = ⟨2, zKey, zPl, id, (u : Int), g u⟩ := by
  unfold slIs
  rw [List.mem_flatMap]
  constructor
  · rintro ⟨u, hu, hi⟩
    rw [List.mem_range] at hu
    unfold slI at hi
    split at hi
    · cases hi
    · rename_i h
      exact ⟨u, hu, h, by simpa using hi⟩
  · rintro ⟨u, hu, hm, rfl⟩
    refine ⟨u, List.mem_range.2 hu, ?_⟩
    unfold slI
    rw [if_neg hm]
    simp
theorem cnt_pos {n : Nat} {f : MpF} {M : SnM} (hu : Uniq M) (hz : ∀ p ∈ M, 1 ≤ p.1) (K : Key) : cntI (mItems n f M) K ≠ 0 ↔ HasSl n f M K := by
  have e : cntI (mItems n f M) K ≠ 0 ↔ ∃ i ∈ mItems n f M, i.kind = 2 ∧ i.sl.key = K := by
    unfold cntI
    constructor
    · intro h
      obtain ⟨i, hi⟩ := List.exists_mem_of_length_pos (l := (mItems n f M).filter (fun i => i.kind == 2 && decide (i.sl.key = K))) (by omega)
      rw [List.mem_filter] at hi
      exact ⟨i, hi.1, by simpa using hi.2⟩
    · rintro ⟨i, hi, h1, h2⟩
      have := List.length_pos_of_mem ((List.mem_filter (p := fun i : It => i.kind == 2 && decide (i.sl.key = K))).2 ⟨hi, by simp [h1, h2]⟩)
      omega
  rw [e]
  constructor
  · rintro ⟨i, hi, h1, h2⟩
    unfold mItems at hi
    rcases List.mem_append.1 hi with hi | hi
    · unfold mSl at hi
      obtain ⟨id, hid, hi⟩ := List.mem_flatMap.1 hi
      obtain ⟨u, hu', hm, rfl⟩ := mem_slIs.1 hi
      refine ⟨gAt f M id, ?_, u, hu', hm, h2⟩
      rcases List.mem_cons.1 hid with rfl | hid
      · exact .inl rfl
      · have := (sIds_perm M).mem_iff.1 hid
        obtain ⟨p, hp, rfl⟩ := List.mem_map.1 this
        exact .inr ⟨p, hp, (gAt_mem hu hz hp).symm⟩
    · obtain ⟨id, _, rfl⟩ := List.mem_map.1 hi
      simp [snI] at h1
  · rintro ⟨g, hg, u, hu', hm, hk⟩
    rcases hg with rfl | ⟨p, hp, rfl⟩
    · exact ⟨⟨2, zKey, zPl, 0, (u : Int), g u⟩, List.mem_append_left _ (List.mem_flatMap.2 ⟨0, by simp, mem_slIs.2 ⟨u, hu', hm, rfl⟩⟩), rfl, hk⟩
    · refine ⟨⟨2, zKey, zPl, p.1, (u : Int), p.2.2 u⟩, List.mem_append_left _ (List.mem_flatMap.2 ⟨p.1, ?_, mem_slIs.2 ⟨u, hu', ?_, ?_⟩⟩), rfl, hk⟩
      · exact List.mem_cons_of_mem _ ((sIds_perm M).mem_iff.2 (List.mem_map_of_mem hp))
      · rw [gAt_mem hu hz hp]; exact hm
      · rw [gAt_mem hu hz hp]
def SlOk (E : ExM) (s : Sl) : Prop := 1 ≤ s.mask ∧ s.mask ≤ 255 ∧ 0 ≤ s.off ∧ s.off < 16 ∧ ∃ p, aget E s.key = some p ∧ s.off < p.uni
/-- What holds of a state. -/
structure Inv (n : Nat) (E : ExM) (f : MpF) (M : SnM) : Prop where
  uniq : Uniq E
  uniqM : Uniq M
  ids : ∀ p ∈ M, 1 ≤ p.1 ∧ p.1 ≤ 1073741824
  len : M.length ≤ 8
  ref : ∀ K p, aget E K = some p → p.ref = cntI (mItems n f M) K ∧ 1 ≤ p.ref
  may : ∀ K p, aget E K = some p → mayP p = true
  has : ∀ g, IsMap f M g → ∀ u, u < n → (g u).mask ≠ 0 → SlOk E (g u)
  mask : ∀ g, IsMap f M g → ∀ u, 0 ≤ (g u).mask ∧ (g u).mask ≤ 255
theorem Inv.refOk {n : Nat} {E : ExM} {f : MpF} {M : SnM} (h : Inv n E f M) : RefOk E := by
  intro q hq
  have h1 := h.may q.1 q.2 (aget_of_mem h.uniq hq)
  unfold mayP at h1
  simp only [Bool.and_eq_true, decide_eq_true_eq] at h1
  exact h1.2
theorem Inv.idsOk {n : Nat} {E : ExM} {f : MpF} {M : SnM} (h : Inv n E f M) : IdsOk M := ⟨by have := h.len; omega, h.ids⟩
theorem Inv.cnt {n : Nat} {E : ExM} {f : MpF} {M : SnM} (h : Inv n E f M) (K : Key) : cntI (mItems n f M) K ≠ 0 ↔ HasSl n f M K := cnt_pos h.uniqM (fun p hp => (h.ids p hp).1) K
theorem Inv.new (n : Nat) : Inv n [] zF [] := by
  refine ⟨List.Pairwise.nil, List.Pairwise.nil, (by simp), (by simp), ?_, ?_, ?_, ?_⟩
  · intro K p h; simp [aget] at h
  · intro K p h; simp [aget] at h
  · rintro g (rfl | ⟨p, hp, _⟩) u hu hm
    · exact absurd rfl hm
    · cases hp
  · rintro g (rfl | ⟨p, hp, _⟩) u
    · exact ⟨Int.le_refl _, show (0 : Int) ≤ 255 by omega⟩
    · cases hp
/-- The counts set right. -/
theorem inv_fix {n : Nat} {E : ExM} {f f' : MpF} {M M' : SnM} (hn : n ≤ 512) (hu : Uniq E) (huM : Uniq M') (hids : ∀ p ∈ M', 1 ≤ p.1 ∧ p.1 ≤ 1073741824) (hlen : M'.length ≤ 8)
    (ha : ∀ K p, aget E K = some p → p.ref = cntI (mItems n f M) K) (hb : ∀ K p, aget E K = some p → mayP p = true)
    (hc : ∀ g, IsMap f' M' g → ∀ u, u < n → (g u).mask ≠ 0 → SlOk E (g u)) (hw : ∀ g, IsMap f' M' g → ∀ u, 0 ≤ (g u).mask ∧ (g u).mask ≤ 255)
    (hd : ∀ K p, aget E K = some p → cntI (mItems n f M) K = 0 → cntI (mItems n f' M') K ≠ 0) : Inv n (fixE E (deltaC (countC (mItems n f M)) (countC (mItems n f' M')))) f' M' := by
  have hml := mItems_len hn f' M'
  have hl : (mItems n f' M').length ≤ 5000 := by omega
  have hg := fix_get (l := mItems n f M) (l' := mItems n f' M') ha (by omega)
  refine ⟨(fixE_uniq hu _).1, huM, hids, hlen, ?_, ?_, ?_, hw⟩
  · intro K q hq
    rw [hg K] at hq
    cases he : aget E K with
    | none => rw [he] at hq; cases hq
    | some p =>
      rw [he] at hq
      simp only [Option.bind_some] at hq
      split at hq
      · cases hq
      · rename_i h
        injection hq with hq
        subst hq
        have h1 := cntI_nonneg (mItems n f' M') K
        have h2 := hd K p he
        refine ⟨rfl, ?_⟩
        simp only
        by_cases h3 : cntI (mItems n f' M') K = 0
        · exfalso
          by_cases h4 : cntI (mItems n f M) K = 0
          · exact h2 h4 h3
          · exact h ⟨h3, h4⟩
        · omega
  · intro K q hq
    rw [hg K] at hq
    cases he : aget E K with
    | none => rw [he] at hq; cases hq
    | some p =>
      rw [he] at hq
      simp only [Option.bind_some] at hq
      split at hq
      · cases hq
      · injection hq with hq
        subst hq
        have h1 := cntI_nonneg (mItems n f' M') K
        have h2 := cntI_le (mItems n f' M') K
        have h3 := hb K p he
        unfold mayP at h3 ⊢
        simp only [Bool.and_eq_true, decide_eq_true_eq] at h3 ⊢
        omega
  · intro g hgm u hu' hm
    obtain ⟨m1, m2, m3, m4, p, hp, hp2⟩ := hc g hgm u hu' hm
    refine ⟨m1, m2, m3, m4, ⟨p.pos, p.sec, p.uni, cntI (mItems n f' M') (g u).key⟩, ?_, hp2⟩
    rw [hg, hp]
    simp only [Option.bind_some]
    have : cntI (mItems n f' M') (g u).key ≠ 0 := (cnt_pos huM (fun p hp => (hids p hp).1) _).2 ⟨g, hgm, u, hu', hm, rfl⟩
    rw [if_neg (fun h => this h.1)]
theorem aget_none_mem {α β : Type} [DecidableEq α] {M : List (α × β)} (hu : Uniq M) {x : α} (h : aget M x = none) : ∀ p ∈ M, p.1 ≠ x := by
  intro p hp e
  have := aget_of_mem hu (x := p.1) (v := p.2) hp
  rw [e, h] at this
  cases this
theorem dropE_ne {M : SnM} {id : Int} (h : dropE M id ≠ 0) : aget M id = none := by
  unfold dropE at h
  cases hg : aget M id with
  | none => rfl
  | some p => rw [hg] at h; simp at h
/-- An error changes nothing. -/
theorem step_err {n : Nat} {E : ExM} {f : MpF} {M : SnM} {o : OpV} {r : Int} {E1 : ExM} {f' : MpF} {M' : SnM} (h : StepR n E f M o r E1 f' M') (hu : Uniq M) (hr : r ≠ 0) : E1 = E ∧ f' = f ∧ M' = M := by
  rcases h with ⟨hk, rfl, rfl, rfl, rfl⟩ | ⟨hk, rfl, rfl, rfl, rfl⟩ | ⟨hk, rfl, rfl, rfl, h3⟩ | ⟨hk, rfl, rfl, rfl, rfl⟩ | ⟨hk, rfl, rfl, rfl, rfl⟩
  · rw [if_neg hr, if_neg hr]
    exact ⟨rfl, rfl, rfl⟩
  · refine ⟨rfl, ?_, rfl⟩
    unfold clrF
    rw [if_neg hr]
  · refine ⟨rfl, rfl, ?_⟩
    rcases h3 with ⟨_, rfl⟩ | ⟨h3, _⟩
    · rfl
    · exact absurd h3 hr
  · exact ⟨rfl, rfl, adel_none (dropE_ne hr)⟩
  · refine ⟨rfl, ?_, rfl⟩
    unfold backF
    rw [dropE_ne hr]
/-! ### A discard -/
theorem anM_le (m x : Int) (hm : 0 ≤ m ∧ m ≤ 255) : 0 ≤ anM m x ∧ anM m x ≤ m := by
  have h1 : (BitVec.ofInt 64 m &&& ~~~ BitVec.ofInt 64 x).toNat ≤ m.toNat := by
    rw [BitVec.toNat_and]
    refine Nat.le_trans Nat.and_le_left ?_
    rw [BitVec.toNat_ofInt]
    omega
  unfold anM
  generalize (BitVec.ofInt 64 m &&& ~~~ BitVec.ofInt 64 x).toNat = t at h1
  have h2 : IntKind.i64.wrap (t : Int) = (t : Int) := by simp (disch := omega) only [IntWalk.i64_in]
  rw [h2]
  omega
/-- A slice of which some is left. -/
def SubSl (s t : Sl) : Prop := 0 ≤ s.mask ∧ s.mask ≤ t.mask ∧ (s.mask ≠ 0 → s.key = t.key ∧ s.off = t.off)
theorem SubSl.refl {s : Sl} (h : 0 ≤ s.mask) : SubSl s s := ⟨h, Int.le_refl _, fun _ => ⟨rfl, rfl⟩⟩
theorem SubSl.trans {s t u : Sl} (h : SubSl s t) (k : SubSl t u) : SubSl s u := by
  refine ⟨h.1, Int.le_trans h.2.1 k.2.1, fun hm => ?_⟩
  have h1 := h.2.2 hm
  have h2 := k.2.2 (by have := h.1; have := h.2.1; omega)
  exact ⟨h1.1.trans h2.1, h1.2.trans h2.2⟩
theorem clr1_sub (s : Sl) (a b : Nat) (h : 0 ≤ s.mask ∧ s.mask ≤ 255) : SubSl (clr1 s a b) s := by
  have := anM_le s.mask ((2 : Int) ^ b - (2 : Int) ^ a) h
  unfold clr1
  split
  · exact ⟨Int.le_refl _, h.1, fun hm => absurd rfl hm⟩
  · exact ⟨this.1, this.2, fun _ => ⟨rfl, rfl⟩⟩
theorem clrGo_sub (k : Nat) : ∀ (g : MpF) (a e : Nat), (∀ u, 0 ≤ (g u).mask ∧ (g u).mask ≤ 255) → ∀ u, SubSl (clrGo k g a e u) (g u) := by
  induction k with
  | zero => intro g a e h u; exact SubSl.refl (h u).1
  | succ k ih =>
    intro g a e h u
    unfold clrGo
    split
    · have h1 : ∀ v, SubSl (upd g (a / 8) (clr1 (g (a / 8)) (a % 8) (clrTo a e)) v) (g v) := by
        intro v
        unfold upd
        split
        · rename_i hv; rw [hv]; exact clr1_sub _ _ _ (h _)
        · exact SubSl.refl (h v).1
      refine SubSl.trans (ih _ _ _ (fun v => ⟨(h1 v).1, ?_⟩) u) (h1 u)
      have h2 := (h1 v).2.1
      have h3 := (h v).2
      omega
    · exact SubSl.refl (h u).1
end Go.Proofs.YtgjjdfhoakailaaGreat
