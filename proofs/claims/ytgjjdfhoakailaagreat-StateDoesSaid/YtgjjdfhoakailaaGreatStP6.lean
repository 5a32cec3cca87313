/-
  state, plain: items are within bounds; how many extents there are; what a map shows.
-/
import Derived.Test.YtgjjdfhoakailaaGreatStP
import Derived.Test.YtgjjdfhoakailaaGreatStArg
namespace Go.Proofs.YtgjjdfhoakailaaGreat
open Go.RowKit Go.Maps Go.Sort Go.Shelf
set_option linter.unusedVariables false
set_option linter.unusedSimpArgs false

theorem mayP_facts {p : Pl} (h : mayP p = true) : (0 ≤ p.pos ∧ p.pos ≤ 262144) ∧ (1 ≤ p.sec ∧ p.sec ≤ 1024) ∧ (1 ≤ p.uni ∧ p.uni ≤ 16) ∧ (0 ≤ p.ref ∧ p.ref ≤ 2147483647) := by
  unfold mayP at h
  simp only [Bool.and_eq_true, decide_eq_true_eq] at h
  exact ⟨h.1.1.1, h.1.1.2, h.1.2, h.2⟩
theorem mayP_B {p : Pl} (h : mayP p = true) : PlB p := by
  obtain ⟨h0, h1, h2, h3⟩ := mayP_facts h
  unfold PlB i64B
  omega
theorem zPl_B : PlB zPl := by unfold PlB i64B zPl; decide
theorem zSl_B : SlB zSl := by unfold SlB i64B zSl; decide
theorem i64B_zero : i64B 0 := by unfold i64B; omega
theorem slIs_B {n : Nat} (hn : n ≤ 512) {g : MpF} {id : Int} (hid : i64B id) (hg : ∀ u, u < n → (g u).mask ≠ 0 → SlB (g u)) : ∀ i ∈ slIs n g id, ItB i := by
  intro i hi
  obtain ⟨u, hu, hm, rfl⟩ := mem_slIs.1 hi
  refine ⟨by simp only; omega, zPl_B, hid, ?_, hg u hu hm⟩
  unfold i64B
  simp only
  omega
theorem SlOk.bounds {E : ExM} {s : Sl} (h : SlOk E s) : SlB s := by
  obtain ⟨h1, h2, h3, h4, _⟩ := h
  unfold SlB i64B
  omega
theorem Inv.slB {n : Nat} {E : ExM} {f : MpF} {M : SnM} (h : Inv n E f M) {g : MpF} (hg : IsMap f M g) : ∀ u, u < n → (g u).mask ≠ 0 → SlB (g u) := fun u hu hm => (h.has g hg u hu hm).bounds
theorem isMap_gAt {n : Nat} {E : ExM} {f : MpF} {M : SnM} (h : Inv n E f M) {id : Int} (hid : id ∈ 0 :: sIds M) : IsMap f M (gAt f M id) := by
  rcases List.mem_cons.1 hid with rfl | hid
  · exact .inl rfl
  · obtain ⟨p, hp, rfl⟩ := List.mem_map.1 ((sIds_perm M).mem_iff.1 hid)
    exact .inr ⟨p, hp, (gAt_mem h.uniqM (fun p hp => (h.ids p hp).1) hp).symm⟩
theorem sIds_range {n : Nat} {E : ExM} {f : MpF} {M : SnM} (h : Inv n E f M) {id : Int} (hid : id ∈ sIds M) : 1 ≤ id ∧ id ≤ 1073741824 := sIds_mem h.idsOk hid
theorem mItems_B {n : Nat} (hn : n ≤ 512) {E : ExM} {f : MpF} {M : SnM} (h : Inv n E f M) : ∀ i ∈ mItems n f M, ItB i := by
  intro i hi
  unfold mItems at hi
  rcases List.mem_append.1 hi with hi | hi
  · unfold mSl at hi
    obtain ⟨id, hid, hi⟩ := List.mem_flatMap.1 hi
    refine slIs_B hn ?_ (h.slB (isMap_gAt h hid)) i hi
    rcases List.mem_cons.1 hid with rfl | hid
    · exact i64B_zero
    · have := sIds_range h hid
      unfold i64B
      omega
  · obtain ⟨id, hid, rfl⟩ := List.mem_map.1 hi
    have := sIds_range h hid
    refine ⟨by simp [snI], zPl_B, ?_, i64B_zero, zSl_B⟩
    unfold i64B snI
    simp only
    omega
theorem xItems_mem {E : ExM} {i : It} : i ∈ xItems E ↔ ∃ p ∈ E, i = exIt p := by
  rw [(xItems_perm E).mem_iff, List.mem_map]
  constructor
  · rintro ⟨p, hp, rfl⟩; exact ⟨p, hp, rfl⟩
  · rintro ⟨p, hp, rfl⟩; exact ⟨p, hp, rfl⟩
theorem xItems_B {n : Nat} {E : ExM} {f : MpF} {M : SnM} (h : Inv n E f M) : ∀ i ∈ xItems E, ItB i := by
  intro i hi
  obtain ⟨p, hp, rfl⟩ := xItems_mem.1 hi
  exact ⟨by simp [exIt], mayP_B (h.may p.1 p.2 (aget_mem_some h.uniq hp)), i64B_zero, i64B_zero, zSl_B⟩
theorem stItems_B {n : Nat} (hn : n ≤ 512) {E : ExM} {f : MpF} {M : SnM} (h : Inv n E f M) : ∀ i ∈ stItems n E f M, ItB i := by
  intro i hi
  rcases List.mem_append.1 hi with hi | hi
  · exact xItems_B h i hi
  · exact mItems_B hn h i hi
theorem stItems_len {n : Nat} (hn : n ≤ 512) {E : ExM} {f : MpF} {M : SnM} (h : Inv n E f M) : (stItems n E f M).length ≤ E.length + 5000 := by
  have h1 := mItems_len hn f M
  have h2 := xItems_len E
  have h3 := h.len
  unfold stItems
  rw [List.length_append]
  omega
theorem cnt_xItems (E : ExM) (K : Key) : cntI (xItems E) K = 0 := by
  unfold cntI
  rw [List.filter_eq_nil_iff.2 (fun i hi => by obtain ⟨p, _, rfl⟩ := xItems_mem.1 hi; simp [exIt])]
  rfl
theorem cnt_stItems (n : Nat) (E : ExM) (f : MpF) (M : SnM) (K : Key) : cntI (stItems n E f M) K = cntI (mItems n f M) K := by
  unfold stItems
  rw [cntI_append, cnt_xItems, Int.zero_add]
/-- The counts of the keys. -/
def cntM (l : List It) : SuM := sumF (cntL l)
theorem cntL_ones {l : List It} {p : Key × Int} (h : p ∈ cntL l) : p.2 = 1 := by
  unfold cntL at h
  obtain ⟨i, _, rfl⟩ := List.mem_map.1 h
  rfl
theorem cntM_some (l : List It) (K : Key) : (aget (cntM l) K).isSome = decide (cntI l K ≠ 0) := by
  unfold cntM
  induction l using snoc_ind with
  | nil => rfl
  | append_singleton l x ih =>
    have e : cntL (l ++ [x]) = cntL l ++ (if x.kind == 2 then [(x.sl.key, 1)] else []) := by
      unfold cntL
      rw [List.filter_append, List.map_append]
      congr 1
      by_cases h : (x.kind == 2) = true <;> simp [h]
    rw [e, cntI_append]
    have h0 := cntI_nonneg l K
    by_cases h : (x.kind == 2) = true
    · rw [if_pos h, sumF_snoc]
      unfold addS
      rw [aget_put, cntI_cons]
      by_cases hk : x.sl.key = K
      · rw [if_pos hk]
        have : cntI [] K = 0 := rfl
        simp only [h, hk, decide_true, Bool.and_self, if_true, this]
        rw [decide_eq_true (by omega)]
        rfl
      · rw [if_neg hk, ih]
        have : cntI [] K = 0 := rfl
        simp [hk, this]
    · rw [if_neg h, List.append_nil, ih, cntI_cons]
      have : cntI [] K = 0 := rfl
      simp [h, this]
theorem uniq_nodup {α β : Type} {M : List (α × β)} (h : Uniq M) : (M.map (·.1)).Nodup := by
  unfold List.Nodup
  rw [List.pairwise_map]
  exact h
theorem len_eq {α β γ : Type} [DecidableEq α] {M : List (α × β)} {N : List (α × γ)} (hM : Uniq M) (hN : Uniq N) (h : ∀ K, (aget M K).isSome = (aget N K).isSome) : M.length = N.length := by
  have hp : (M.map (·.1)).Perm (N.map (·.1)) := by
    refine (List.perm_ext_iff_of_nodup (uniq_nodup hM) (uniq_nodup hN)).2 (fun K => ?_)
    have g : ∀ {δ : Type} (L : List (α × δ)), Uniq L → (K ∈ L.map (·.1) ↔ (aget L K).isSome = true) := fun L hL => by
      rw [List.mem_map]
      constructor
      · rintro ⟨p, hp, rfl⟩
        rw [aget_mem_some hL hp]
        rfl
      · intro hs
        obtain ⟨v, hv⟩ := Option.isSome_iff_exists.1 hs
        exact ⟨(K, v), aget_mem hv, rfl⟩
    rw [g M hM, g N hN, h K]
  have := hp.length_eq
  simpa using this
theorem Inv.lenE {n : Nat} {E : ExM} {f : MpF} {M : SnM} (h : Inv n E f M) : E.length = (cntM (stItems n E f M)).length := by
  refine len_eq h.uniq (sumF_uniq _) (fun K => ?_)
  rw [h.isSome, cntM_some, cnt_stItems]
theorem cntM_val (l : List It) (K : Key) : valF (cntM l) K = cntI l K := cnt_val l K
/-- What a map shows: the current one (0), or a snapshot's. -/
def viewN (k : Nat) (f : MpF) (M : SnM) (snap : Int) : List It := match ofS f M snap with | some g => slIs k g 0 | none => []
theorem view_succ (n k : Nat) (f : MpF) (M : SnM) (snap : Int) (hk : k < n) : viewN (k + 1) f M snap = viewN k f M snap ++ (match getS n f M snap (k : Int) with | some s => [⟨2, zKey, zPl, 0, (k : Int), s⟩] | none => []) := by
  unfold viewN getS
  rw [if_pos (by omega)]
  cases ofS f M snap with
  | none => rfl
  | some g =>
    simp only
    rw [slIs_succ]
    congr 1
    unfold slI
    rw [Int.toNat_natCast]
    split <;> rfl
theorem viewN_len (k : Nat) (f : MpF) (M : SnM) (snap : Int) : (viewN k f M snap).length ≤ k := by
  unfold viewN
  cases ofS f M snap with
  | none => simp
  | some g => exact slIs_len k g 0
theorem view_zero (k : Nat) (f : MpF) (M : SnM) : viewN k f M 0 = slIs k f 0 := rfl
theorem view_mem {n k : Nat} {E : ExM} {f : MpF} {M : SnM} (h : Inv n E f M) {p : Int × (Nat × MpF)} (hp : p ∈ M) : viewN k f M p.1 = slIs k p.2.2 0 := by
  have h1 := (h.ids p hp).1
  unfold viewN ofS
  rw [if_neg (by omega), aget_mem_some h.uniqM hp]
  rfl
theorem view_B {n : Nat} (hn : n ≤ 512) {E : ExM} {f : MpF} {M : SnM} (h : Inv n E f M) (snap : Int) : ∀ i ∈ viewN n f M snap, ItB i := by
  unfold viewN
  cases hs : ofS f M snap with
  | none => simp
  | some g =>
    simp only
    refine slIs_B hn i64B_zero (h.slB ?_)
    unfold ofS at hs
    split at hs
    · injection hs with hs
      exact .inl hs.symm
    · cases ha : aget M snap with
      | none => rw [ha] at hs; cases hs
      | some p =>
        rw [ha] at hs
        injection hs with hs
        exact .inr ⟨_, aget_mem ha, hs⟩
end Go.Proofs.YtgjjdfhoakailaaGreat
