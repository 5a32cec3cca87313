/-
  what this claim needs of: StP6 (written by cut.py).
-/
import Derived.Test.YtgjjdfhoakailaaGreatBStP
import Derived.Test.YtgjjdfhoakailaaGreatBStArg
namespace Go.Proofs.YtgjjdfhoakailaaGreat
open Go.RowKit Go.Maps Go.Sort Go.Shelf
set_option linter.unusedVariables false
set_option linter.unusedSimpArgs false

theorem mayP_facts {p : Pl} (h : mayP p = true) : (0 ≤ p.pos ∧ p.pos ≤ 262144) ∧ (1 ≤ p.sec ∧ p.sec ≤ 1024) ∧ (1 ≤ p.uni ∧ p.uni ≤ 16) ∧ (0 ≤ p.ref ∧ p.ref ≤ 2147483647) := by
  unfold mayP at h
  simp only [Bool.and_eq_true, decide_eq_true_eq] at h
  exact ⟨h.1.1.1, h.1.1.2, h.1.2, h.2⟩
theorem mayP_B {p : Pl} (h : mayP p = true) : PlB p := by
  obtain ⟨h0, h1, h2, h3⟩ := mayP_facts h
  unfold PlB i64B
  omega
theorem zPl_B : PlB zPl := by unfold PlB i64B zPl; decide
theorem zSl_B : SlB zSl := by unfold SlB i64B zSl; decide
theorem i64B_zero : i64B 0 := by unfold i64B; omega
theorem slIs_B {n : Nat} (hn : n ≤ 512) {g : MpF} {id : Int} (hid : i64B id) (hg : ∀ u, u < n → (g u).mask ≠ 0 → SlB (g u)) : ∀ i ∈ slIs n g id, ItB i := by
  intro i hi
  obtain ⟨u, hu, hm, rfl⟩ := mem_slIs.1 hi
  refine ⟨by simp only; omega, zPl_B, hid, ?_, hg u hu hm⟩
  unfold i64B
  simp only
  omega
theorem SlOk.bounds {E : ExM} {s : Sl} (h : SlOk E s) : SlB s := by
  obtain ⟨h1, h2, h3, h4, _⟩ := h
  unfold SlB i64B
  omega
theorem Inv.slB {n : Nat} {E : ExM} {f : MpF} {M : SnM} (h : Inv n E f M) {g : MpF} (hg : IsMap f M g) : ∀ u, u < n → (g u).mask ≠ 0 → SlB (g u) := fun u hu hm => (h.has g hg u hu hm).bounds
theorem isMap_gAt {n : Nat} {E : ExM} {f : MpF} {M : SnM} (h : Inv n E f M) {id : Int} (hid : id ∈ 0 :: sIds M) : IsMap f M (gAt f M id) := by
  rcases List.mem_cons.1 hid with rfl | hid
  · exact .inl rfl
  · obtain ⟨p, hp, rfl⟩ := List.mem_map.1 ((sIds_perm M).mem_iff.1 hid)
    exact .inr ⟨p, hp, (gAt_mem h.uniqM (fun p hp => (h.ids p hp).1) hp).symm⟩
theorem sIds_range {n : Nat} {E : ExM} {f : MpF} {M : SnM} (h : Inv n E f M) {id : Int} (hid : id ∈ sIds M) : 1 ≤ id ∧ id ≤ 1073741824 := sIds_mem h.idsOk hid
theorem mItems_B {n : Nat} (hn : n ≤ 512) {E : ExM} {f : MpF} {M : SnM} (h : Inv n E f M) : ∀ i ∈ mItems n f M, ItB i := by
  intro i hi
  unfold mItems at hi
  rcases List.mem_append.1 hi with hi | hi
  · unfold mSl at hi
    obtain ⟨id, hid, hi⟩ := List.mem_flatMap.1 hi
    refine slIs_B hn ?_ (h.slB (isMap_gAt h hid)) i hi
    rcases List.mem_cons.1 hid with rfl | hid
    · exact i64B_zero
    · have := sIds_range h hid
      unfold i64B
      omega
  · obtain ⟨id, hid, rfl⟩ := List.mem_map.1 hi
    have := sIds_range h hid
    refine ⟨by simp [snI], zPl_B, ?_, i64B_zero, zSl_B⟩
    unfold i64B snI
    simp only
    omega
theorem xItems_mem {E : ExM} {i : It} : i ∈ xItems E ↔ ∃ p ∈ E, i = exIt p := by
  rw [(xItems_perm E).mem_iff, List.mem_map]
  constructor
  · rintro ⟨p, hp, rfl⟩; exact ⟨p, hp, rfl⟩
  · rintro ⟨p, hp, rfl⟩; exact ⟨p, hp, rfl⟩
theorem xItems_B {n : Nat} {E : ExM} {f : MpF} {M : SnM} (h : Inv n E f M) : ∀ i ∈ xItems E, ItB i := by
  intro i hi
  obtain ⟨p, hp, rfl⟩ := xItems_mem.1 hi
  exact ⟨by simp [exIt], mayP_B (h.may p.1 p.2 (aget_mem_some h.uniq hp)), i64B_zero, i64B_zero, zSl_B⟩
theorem stItems_B {n : Nat} (hn : n ≤ 512) {E : ExM} {f : MpF} {M : SnM} (h : Inv n E f M) : ∀ i ∈ stItems n E f M, ItB i := by
  intro i hi
  rcases List.mem_append.1 hi with hi | hi
  · exact xItems_B h i hi
  · exact mItems_B hn h i hi
theorem stItems_len {n : Nat} (hn : n ≤ 512) {E : ExM} {f : MpF} {M : SnM} (h : Inv n E f M) : (stItems n E f M).length ≤ E.length + 5000 := by
  have h1 := mItems_len hn f M
  have h2 := xItems_len E
  have h3 := h.len
  unfold stItems
  rw [List.length_append]
  omega
theorem cnt_xItems (E : ExM) (K : Key) : cntI (xItems E) K = 0 := by
  unfold cntI
  rw [List.filter_eq_nil_iff.2 (fun i hi => by obtain ⟨p, _, rfl⟩ := xItems_mem.1 hi; simp [exIt])]
  rfl
theorem cnt_stItems (n : Nat) (E : ExM) (f : MpF) (M : SnM) (K : Key) : cntI (stItems n E f M) K = cntI (mItems n f M) K := by
  unfold stItems
  rw [cntI_append, cnt_xItems, Int.zero_add]
theorem uniq_nodup {α β : Type} {M : List (α × β)} (h : Uniq M) : (M.map (·.1)).Nodup := by
  unfold List.Nodup
  rw [List.pairwise_map]
  exact h
end Go.Proofs.YtgjjdfhoakailaaGreat
