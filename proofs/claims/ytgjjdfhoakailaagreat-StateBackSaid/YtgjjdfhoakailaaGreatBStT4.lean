/-
  what this claim needs of: StT4 (written by cut.py).
-/
import Derived.Test.YtgjjdfhoakailaaGreatBStT1
namespace Go.Proofs.YtgjjdfhoakailaaGreat
open Go.RowKit Go.Maps Go.Sort Go.Shelf
set_option linter.unusedVariables false
set_option linter.unusedSimpArgs false

theorem seenM_get {l : List It} (h : (l.map stT).Nodup) {x : It} (hx : x ∈ l) : aget (seenM l) (stT x) = some x := by
  induction l using snoc_ind with
  | nil => cases hx
  | append_singleton l y ih =>
    rw [List.map_append, List.nodup_append] at h
    rw [seenM_snoc, aget_put]
    rcases List.mem_append.1 hx with hx | hx
    · have hne : ¬ stT y = stT x := fun e => h.2.2 _ (List.mem_map_of_mem hx) (stT y) (by simp) e.symm
      rw [if_neg hne]
      exact ih h.1 hx
    · obtain rfl : x = y := by simpa using hx
      rw [if_pos rfl]
theorem seenM_none {l : List It} {t : ThB} (h : ∀ x ∈ l, stT x ≠ t) : aget (seenM l) t = none := by
  have := seenM_some l t
  rw [decide_eq_false (fun hm => by obtain ⟨x, hx, e⟩ := List.mem_map.1 hm; exact h x hx e)] at this
  cases hg : aget (seenM l) t with
  | none => rfl
  | some v => rw [hg] at this; cases this
theorem thE_ok (K : Key) : ThOk ⟨1, K, 0, 0⟩ := ⟨by simp, i64B_zero, i64B_zero⟩
theorem ne_of_kind {s t : Th} (hs : ThOk s) (ht : ThOk t) (h : s.kind ≠ t.kind) : mkTh s ≠ mkTh t := fun e => h (by rw [mkTh_inj hs ht e])
/-- An index's items stand for different things. -/
theorem nd_x {E : ExM} (h : Uniq E) : ((xItems E).map stT).Nodup := by
  have hp : ((xItems E).map stT).Perm ((E.map exIt).map stT) := (xItems_perm E).map _
  refine hp.nodup_iff.2 ?_
  rw [List.map_map]
  unfold List.Nodup
  rw [List.pairwise_map]
  refine h.imp (fun {p q} hne e => hne ?_)
  have := mkTh_inj (thE_ok p.1) (thE_ok q.1) e
  injection this
theorem ids_nd {M : SnM} (h : Uniq M) (hz : ∀ p ∈ M, 1 ≤ p.1 ∧ p.1 ≤ 1073741824) : (0 :: sIds M).Nodup ∧ ∀ id ∈ 0 :: sIds M, 0 ≤ id ∧ id ≤ 1073741824 := by
  have h1 : (sIds M).Nodup := (sIds_perm M).nodup_iff.2 (uniq_nodup h)
  have h2 : ∀ id ∈ sIds M, 1 ≤ id ∧ id ≤ 1073741824 := fun id hid => by
    obtain ⟨p, hp, rfl⟩ := List.mem_map.1 ((sIds_perm M).mem_iff.1 hid)
    exact hz p hp
  refine ⟨List.nodup_cons.2 ⟨fun hm => by have := h2 0 hm; omega, h1⟩, fun id hid => ?_⟩
  rcases List.mem_cons.1 hid with rfl | hid
  · omega
  · have := h2 id hid
    omega
theorem sl_ok {id : Int} {u : Nat} (h : 0 ≤ id ∧ id ≤ 1073741824) (hu : u < 512) : ThOk ⟨2, zKey, id, (u : Int)⟩ := by
  refine ⟨by simp, ?_, ?_⟩ <;> unfold i64B <;> simp only <;> omega
theorem nd_sl {n : Nat} (hn : n ≤ 512) (g : MpF) {id : Int} (hid : 0 ≤ id ∧ id ≤ 1073741824) : ((slIs n g id).map stT).Nodup := by
  induction n with
  | zero => simp [slIs]
  | succ n ih =>
    rw [slIs_succ, List.map_append, List.nodup_append]
    refine ⟨ih (by omega), ?_, fun a ha b hb e => ?_⟩
    · unfold slI; split <;> simp
    · obtain ⟨x, hx, rfl⟩ := List.mem_map.1 ha
      obtain ⟨u, hu, _, rfl⟩ := mem_slIs.1 hx
      obtain ⟨y, hy, rfl⟩ := List.mem_map.1 hb
      unfold slI at hy
      split at hy
      · cases hy
      · obtain rfl : y = _ := by simpa using hy
        have := mkTh_inj (sl_ok hid (by omega : u < 512)) (sl_ok hid (by omega : n < 512)) e
        injection this with _ _ _ h4
        omega
theorem nd_mSl {n : Nat} (hn : n ≤ 512) (f : MpF) (M : SnM) : ∀ ids : List Int, ids.Nodup → (∀ id ∈ ids, 0 ≤ id ∧ id ≤ 1073741824) → ((mSl n f M ids).map stT).Nodup
  | [], _, _ => by simp [mSl]
  | id :: ids, hnd, hr => by
    obtain ⟨h1, h2⟩ := List.nodup_cons.1 hnd
    have ih := nd_mSl hn f M ids h2 (fun x hx => hr x (List.mem_cons_of_mem _ hx))
    have e : mSl n f M (id :: ids) = slIs n (gAt f M id) id ++ mSl n f M ids := by unfold mSl; rw [List.flatMap_cons]
    rw [e, List.map_append, List.nodup_append]
    refine ⟨nd_sl hn _ (hr id (by simp)), ih, fun a ha b hb e => ?_⟩
    obtain ⟨x, hx, rfl⟩ := List.mem_map.1 ha
    obtain ⟨u, hu, _, rfl⟩ := mem_slIs.1 hx
    obtain ⟨y, hy, rfl⟩ := List.mem_map.1 hb
    unfold mSl at hy
    obtain ⟨id2, hid2, hy⟩ := List.mem_flatMap.1 hy
    obtain ⟨u2, hu2, _, rfl⟩ := mem_slIs.1 hy
    have := mkTh_inj (sl_ok (hr id (by simp)) (by omega : u < 512)) (sl_ok (hr id2 (List.mem_cons_of_mem _ hid2)) (by omega : u2 < 512)) e
    injection this with _ _ h3 _
    exact h1 (by rw [h3]; exact hid2)
theorem thS_ok {id : Int} (h : 0 ≤ id ∧ id ≤ 1073741824) : ThOk ⟨3, zKey, id, 0⟩ := by
  refine ⟨by simp, ?_, i64B_zero⟩
  unfold i64B
  simp only
  omega
theorem mItems_mem {n : Nat} {f : MpF} {M : SnM} {i : It} : i ∈ mItems n f M ↔ (∃ id ∈ 0 :: sIds M, ∃ u, u < n ∧ (gAt f M id u).mask ≠ 0 ∧ i = ⟨2, zKey, zPl, id, (u : Int), gAt f M id u⟩) ∨ ∃ id ∈ sIds M, i = snI id := by
  unfold mItems mSl
  rw [List.mem_append, List.mem_flatMap, List.mem_map]
  constructor
  · rintro (⟨id, hid, hi⟩ | ⟨id, hid, rfl⟩)
    · exact .inl ⟨id, hid, mem_slIs.1 hi⟩
    · exact .inr ⟨id, hid, rfl⟩
  · rintro (⟨id, hid, hi⟩ | ⟨id, hid, rfl⟩)
    · exact .inl ⟨id, hid, mem_slIs.2 hi⟩
    · exact .inr ⟨id, hid, rfl⟩
theorem nd_m {n : Nat} (hn : n ≤ 512) (f : MpF) {M : SnM} (hu : Uniq M) (hz : ∀ p ∈ M, 1 ≤ p.1 ∧ p.1 ≤ 1073741824) : ((mItems n f M).map stT).Nodup := by
  obtain ⟨h1, h2⟩ := ids_nd hu hz
  have h3 := List.nodup_cons.1 h1
  unfold mItems
  rw [List.map_append, List.nodup_append]
  refine ⟨nd_mSl hn f M _ h1 h2, ?_, fun a ha b hb e => ?_⟩
  · rw [List.map_map]
    unfold List.Nodup
    rw [List.pairwise_map]
    have h4 : (sIds M).Pairwise (fun a b => a ≠ b ∧ a ∈ sIds M ∧ b ∈ sIds M) := List.Pairwise.imp_of_mem (fun {a b} ha hb hab => ⟨hab, ha, hb⟩) h3.2
    refine h4.imp (fun {a b} hab e => hab.1 ?_)
    have := mkTh_inj (thS_ok (h2 a (List.mem_cons_of_mem _ hab.2.1))) (thS_ok (h2 b (List.mem_cons_of_mem _ hab.2.2))) e
    injection this
  · obtain ⟨x, hx, rfl⟩ := List.mem_map.1 ha
    unfold mSl at hx
    obtain ⟨id, hid, hx⟩ := List.mem_flatMap.1 hx
    obtain ⟨u, hu, _, rfl⟩ := mem_slIs.1 hx
    obtain ⟨y, hy, rfl⟩ := List.mem_map.1 hb
    obtain ⟨id2, hid2, rfl⟩ := List.mem_map.1 hy
    exact ne_of_kind (sl_ok (h2 id hid) (by omega : u < 512)) (thS_ok (h2 id2 (List.mem_cons_of_mem _ hid2))) (by simp) e
theorem nd_st {n : Nat} (hn : n ≤ 512) {E : ExM} (f : MpF) {M : SnM} (hE : Uniq E) (hu : Uniq M) (hz : ∀ p ∈ M, 1 ≤ p.1 ∧ p.1 ≤ 1073741824) : ((stItems n E f M).map stT).Nodup := by
  obtain ⟨h1, h2⟩ := ids_nd hu hz
  unfold stItems
  rw [List.map_append, List.nodup_append]
  refine ⟨nd_x hE, nd_m hn f hu hz, fun a ha b hb e => ?_⟩
  obtain ⟨x, hx, rfl⟩ := List.mem_map.1 ha
  obtain ⟨p, _, rfl⟩ := xItems_mem.1 hx
  obtain ⟨y, hy, rfl⟩ := List.mem_map.1 hb
  rcases mItems_mem.1 hy with ⟨id, hid, u, hu, _, rfl⟩ | ⟨id, hid, rfl⟩
  · exact ne_of_kind (thE_ok p.1) (sl_ok (h2 id hid) (by omega : u < 512)) (by simp) e
  · exact ne_of_kind (thE_ok p.1) (thS_ok (h2 id (List.mem_cons_of_mem _ hid))) (by simp) e
end Go.Proofs.YtgjjdfhoakailaaGreat
