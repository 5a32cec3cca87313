/-
  what this claim needs of: StS6 (written by cut.py).
-/
import Derived.Test.YtgjjdfhoakailaaGreatBStS4
import Derived.Test.YtgjjdfhoakailaaGreatBStX
import Derived.Test.YtgjjdfhoakailaaGreatBStC
namespace Go.Proofs.YtgjjdfhoakailaaGreat
open Go.RowKit Go.Maps Go.Sort Go.Shelf
set_option linter.unusedVariables false
set_option linter.unusedSimpArgs false

theorem sumF_uniq (l : SuM) : Uniq (sumF l) := by
  induction l using snoc_ind with
  | nil => exact List.Pairwise.nil
  | append_singleton l p ih =>
    rw [sumF_snoc]
    unfold addS
    exact ih.put _ _
theorem rowC_mem (S : SuM) (c : Cn) : c ∈ rowC S ↔ (c.key, c.ref) ∈ S ∧ c.ref ≠ 0 := by
  rw [(rowC_perm S).mem_iff, List.mem_map]
  constructor
  · rintro ⟨p, hp, rfl⟩
    unfold nz at hp
    rw [List.mem_filter] at hp
    refine ⟨hp.1, ?_⟩
    have h2 := hp.2
    simp at h2
    exact h2
  · rintro ⟨h1, h2⟩
    refine ⟨(c.key, c.ref), ?_, rfl⟩
    unfold nz
    rw [List.mem_filter]
    exact ⟨h1, by simpa using h2⟩
theorem rowC_val {S : SuM} (hu : Uniq S) {c : Cn} (h : c ∈ rowC S) : c.ref = valF S c.key := by
  have h1 := aget_of_mem hu ((rowC_mem S c).1 h).1
  unfold valF
  rw [h1]
  rfl
theorem countC_ok {l : List It} (h : l.length ≤ 1000000) : RefsOk (countC l) := by
  have h1 := cntL_len l
  have h2 := sumF_facts 1 (cntL l) (fun p hp => by
    unfold cntL at hp
    obtain ⟨i, _, rfl⟩ := List.mem_map.1 hp
    simp)
  refine ⟨Nat.le_trans (rowC_len _) (by omega), fun c hc => ?_⟩
  have h3 := rowC_val (sumF_uniq _) hc
  have h4 := h2.2 c.key
  rw [h3]
  omega
theorem deltaC_ok {a b : List Cn} (ha : RefsOk a) (hb : RefsOk b) : (deltaC a b).length ≤ 2000000 ∧ ∀ c ∈ deltaC a b, -2000000000000000 ≤ c.ref ∧ c.ref ≤ 2000000000000000 := by
  have h := delta_bound (pre := negL a) (rest := posL b) (fun p hp => by
    rcases List.mem_append.1 hp with hp | hp
    · obtain ⟨c, hc, rfl⟩ := List.mem_map.1 hp
      have := ha.2 c hc
      simp only
      omega
    · obtain ⟨c, hc, rfl⟩ := List.mem_map.1 hp
      have := hb.2 c hc
      simp only
      omega) (by have h1 := ha.1; have h2 := hb.1; simp [negL, posL]; omega) (posL b).length
  rw [List.take_of_length_le (Nat.le_refl _)] at h
  refine ⟨Nat.le_trans (rowC_len _) h.1, fun c hc => ?_⟩
  have h3 := rowC_val (sumF_uniq _) hc
  rw [h3]
  exact h.2 c.key
/-- The counts are set right. -/
def fixE (E : ExM) (l : List Cn) : ExM := l.foldl (fun E c => wantX E c.key c.ref) E
theorem fixE_snoc (E : ExM) (l : List Cn) (c : Cn) : fixE E (l ++ [c]) = wantX (fixE E l) c.key c.ref := by simp [fixE, List.foldl_append]
theorem mem_adel {α β : Type} [DecidableEq α] {M : List (α × β)} {k : α} {q : α × β} (h : q ∈ adel M k) : q ∈ M := (List.mem_filter.1 h).1
theorem adel_le' {α β : Type} [DecidableEq α] (M : List (α × β)) (k : α) : (adel M k).length ≤ M.length := List.length_filter_le _ _
theorem turnX_ok {E : ExM} (h : RefOk E) (K : Key) (n : Int) : RefOk (turnX E K n) ∧ (turnX E K n).length ≤ E.length + 1 := by
  unfold turnX
  cases hg : aget E K with
  | none => exact ⟨h, Nat.le_succ _⟩
  | some p =>
    simp only
    split
    · rename_i hw
      refine ⟨fun q hq => ?_, aput_len _ _ _⟩
      unfold aput at hq
      rcases List.mem_cons.1 hq with rfl | hq
      · have h1 : 0 ≤ p.ref ∧ p.ref ≤ 2147483647 := h _ (aget_mem hg)
        unfold wantIn at hw
        unfold plAdd
        simp only
        omega
      · exact h q (mem_adel hq)
    · exact ⟨h, Nat.le_succ _⟩
theorem wantX_ok {E : ExM} (h : RefOk E) (K : Key) (n : Int) : RefOk (wantX E K n) ∧ (wantX E K n).length ≤ E.length + 1 := by
  have h1 := turnX_ok h K n
  unfold wantX
  split
  · exact ⟨fun q hq => h1.1 q (mem_adel hq), Nat.le_trans (adel_le' _ _) h1.2⟩
  · exact h1
theorem fixE_ok {E : ExM} (h : RefOk E) (l : List Cn) : RefOk (fixE E l) ∧ (fixE E l).length ≤ E.length + l.length := by
  induction l using snoc_ind with
  | nil => exact ⟨h, by simp [fixE]⟩
  | append_singleton l c ih =>
    rw [fixE_snoc, List.length_append, List.length_singleton]
    have := wantX_ok ih.1 c.key c.ref
    exact ⟨this.1, by omega⟩
theorem addAll_ok {E : ExM} (h : RefOk E) {l : List Fr} (hl : l.all frB = true) : RefOk (addAll E l) := by
  induction l using snoc_ind with
  | nil => exact h
  | append_singleton l p ih =>
    rw [List.all_append, Bool.and_eq_true] at hl
    have ih := ih hl.1
    rw [addAll_snoc]
    unfold addX
    split
    · intro q hq
      unfold aput at hq
      rcases List.mem_cons.1 hq with rfl | hq
      · have h1 : frB p = true := by simpa using hl.2
        unfold frB at h1
        simp only [Bool.and_eq_true, decide_eq_true_eq] at h1
        simp only
        omega
      · exact ih q (mem_adel hq)
    · exact ih
/-- What an op does, ahead of the counts. -/
def StepR (n : Nat) (E : ExM) (f : MpF) (M : SnM) (o : OpV) (r : Int) (E1 : ExM) (f' : MpF) (M' : SnM) : Prop :=
  (o.kind = 1 ∧ r = wrE n E o ∧ E1 = (if wrE n E o = 0 then addAll E o.news else E) ∧ f' = (if wrE n E o = 0 then setAll n f o.puts else f) ∧ M' = M) ∨
  (o.kind = 2 ∧ E1 = E ∧ r = clrE n o.pos o.n ∧ f' = clrF n f o.pos o.n ∧ M' = M) ∨
  (o.kind = 3 ∧ E1 = E ∧ SnapR f M o.snap r f' M') ∨
  (o.kind = 4 ∧ E1 = E ∧ r = dropE M o.snap ∧ f' = f ∧ M' = adel M o.snap) ∨
  (o.kind = 5 ∧ E1 = E ∧ r = dropE M o.snap ∧ f' = backF f M o.snap ∧ M' = M)
def DoR (n : Nat) (E : ExM) (f : MpF) (M : SnM) (o : OpV) (r : Int) (E' : ExM) (f' : MpF) (M' : SnM) : Prop :=
  (rightB o = false ∧ r = 4 ∧ E' = E ∧ f' = f ∧ M' = M) ∨
  (rightB o = true ∧ ∃ E1, StepR n E f M o r E1 f' M' ∧ E' = if r = 0 then fixE E1 (deltaC (countC (mItems n f M)) (countC (mItems n f' M'))) else E1)
theorem right_kind {o : OpV} (h : rightB o = true) : (o.kind = 1 ∨ o.kind = 2 ∨ o.kind = 3 ∨ o.kind = 4 ∨ o.kind = 5) ∧ (o.kind = 1 → writeB o = true) ∧ ((o.kind = 3 ∨ o.kind = 4 ∨ o.kind = 5) → 1 ≤ o.snap ∧ o.snap ≤ 1073741824) := by
  unfold rightB at h
  split at h
  · rename_i hk
    simp only [Bool.and_eq_true] at h
    exact ⟨.inl hk, fun _ => h.2, fun h => by omega⟩
  · split at h
    · rename_i hk
      exact ⟨.inr (.inl hk), fun h => by omega, fun h => by omega⟩
    · split at h
      · rename_i hk
        simp only [Bool.and_eq_true] at h
        have h1 := h.2
        unfold inB at h1
        simp only [decide_eq_true_eq] at h1
        exact ⟨by omega, fun h => by omega, fun _ => h1⟩
      · cases h
theorem step_ok {n : Nat} {E : ExM} {f : MpF} {M : SnM} {o : OpV} {r : Int} {E1 : ExM} {f' : MpF} {M' : SnM} (h : StepR n E f M o r E1 f' M') (ho : rightB o = true) (hR : RefOk E) (hM : IdsOk M) (hMl : M.length ≤ 900) : RefOk E1 ∧ E1.length ≤ E.length + o.news.length ∧ IdsOk M' := by
  obtain ⟨_, hw, hs⟩ := right_kind ho
  rcases h with ⟨hk, rfl, rfl, rfl, rfl⟩ | ⟨hk, rfl, rfl, rfl, rfl⟩ | ⟨hk, rfl, h1, h2, h3⟩ | ⟨hk, rfl, rfl, rfl, rfl⟩ | ⟨hk, rfl, rfl, rfl, rfl⟩
  · have h1 := hw hk
    unfold writeB newsB at h1
    simp only [Bool.and_eq_true] at h1
    refine ⟨?_, ?_, hM⟩
    · split
      · exact addAll_ok hR h1.1.1.1.1
      · exact hR
    · have := addAll_len E o.news
      split <;> omega
  · exact ⟨hR, Nat.le_add_right _ _, hM⟩
  · refine ⟨hR, Nat.le_add_right _ _, ?_⟩
    rcases h3 with ⟨_, rfl⟩ | ⟨_, g, rfl⟩
    · exact hM
    · have h4 := aput_len M o.snap (g, f)
      refine ⟨by omega, fun p hp => ?_⟩
      unfold aput at hp
      rcases List.mem_cons.1 hp with rfl | hp
      · exact hs (.inl hk)
      · exact hM.2 p (mem_adel hp)
  · exact ⟨hR, Nat.le_add_right _ _, Nat.le_trans (adel_le' _ _) hM.1, fun p hp => hM.2 p (mem_adel hp)⟩
  · exact ⟨hR, Nat.le_add_right _ _, hM⟩
end Go.Proofs.YtgjjdfhoakailaaGreat
