/-
  what this claim needs of: StT5 (written by cut.py).
-/
import Derived.Test.YtgjjdfhoakailaaGreatBStT4
import Derived.Test.YtgjjdfhoakailaaGreatBStX
namespace Go.Proofs.YtgjjdfhoakailaaGreat
open Go.RowKit Go.Maps Go.Sort Go.Shelf
set_option linter.unusedVariables false
set_option linter.unusedSimpArgs false

theorem inB_true {n a b : Int} (h : a ≤ n ∧ n ≤ b) : inB n a b = true := decide_eq_true h
theorem right_x {K : Key} {p : Pl} (h : mayP p = true) (hr : 1 ≤ p.ref) : rightI (exIt (K, p)) = true := by
  obtain ⟨h0, h1, h2, h3⟩ := mayP_facts h
  unfold rightI fineI bareI exIt
  simp only [if_true, inB_true h0, inB_true h1, inB_true h2, inB_true ⟨hr, h3.2⟩, Bool.and_self, decide_true]
theorem right_sl {id : Int} (hid : 0 ≤ id ∧ id ≤ 1073741824) {u : Nat} (hu : u < 512) {s : Sl} (h : 1 ≤ s.mask ∧ s.mask ≤ 255 ∧ 0 ≤ s.off ∧ s.off < 16) : rightI ⟨2, zKey, zPl, id, (u : Int), s⟩ = true := by
  unfold rightI fineI bareI
  have e1 : inB (u : Int) 0 511 = true := inB_true (by omega)
  have e2 : inB s.off 0 15 = true := inB_true (by omega)
  have e3 : inB s.mask 1 255 = true := inB_true (by omega)
  have c1 : ¬ (2 : Int) = 1 := by omega
  simp only [if_neg c1, if_true, inB_true hid, e1, e2, e3, Bool.and_self, decide_true]
theorem right_sn {id : Int} (hid : 1 ≤ id ∧ id ≤ 1073741824) : rightI (snI id) = true := by
  unfold rightI fineI bareI snI
  have c1 : ¬ (3 : Int) = 1 := by omega
  have c2 : ¬ (3 : Int) = 2 := by omega
  simp only [if_neg c1, if_neg c2, if_true, inB_true hid, Bool.and_self, decide_true]
section
variable {n : Nat} {E : ExM} {f : MpF} {M : SnM}
theorem inv_ids (h : Inv n E f M) : (0 :: sIds M).Nodup ∧ ∀ id ∈ 0 :: sIds M, 0 ≤ id ∧ id ≤ 1073741824 := ids_nd h.uniqM h.ids
theorem inv_right (hn : n ≤ 512) (h : Inv n E f M) : ∀ i ∈ stItems n E f M, rightI i = true := by
  intro i hi
  rcases List.mem_append.1 hi with hi | hi
  · obtain ⟨p, hp, rfl⟩ := xItems_mem.1 hi
    have hg := aget_mem_some h.uniq hp
    exact right_x (h.may _ _ hg) (h.ref _ _ hg).2
  · rcases mItems_mem.1 hi with ⟨id, hid, u, hu, hm, rfl⟩ | ⟨id, hid, rfl⟩
    · obtain ⟨m1, m2, m3, m4, _⟩ := h.has _ (isMap_gAt h hid) u hu hm
      exact right_sl ((inv_ids h).2 id hid) (by omega) ⟨m1, m2, m3, m4⟩
    · exact right_sn (sIds_range h hid)
theorem seen_x {E' : ExM} (hn : n ≤ 512) (hE : Uniq E') (h : Inv n E f M) {K : Key} {p : Pl} (hp : aget E' K = some p) : aget (seenM (stItems n E' f M)) (thE K) = some (exIt (K, p)) :=
  seenM_get (nd_st hn f hE h.uniqM h.ids) (x := exIt (K, p)) (List.mem_append_left _ (xItems_mem.2 ⟨(K, p), aget_mem hp, rfl⟩))
theorem seen_s {E' : ExM} (hn : n ≤ 512) (hE : Uniq E') (h : Inv n E f M) {id : Int} (hid : id ∈ sIds M) : aget (seenM (stItems n E' f M)) (thS id) = some (snI id) :=
  seenM_get (nd_st hn f hE h.uniqM h.ids) (x := snI id) (List.mem_append_right _ (mItems_mem.2 (.inr ⟨id, hid, rfl⟩)))
theorem inv_okI (hn : n ≤ 512) (h : Inv n E f M) : ∀ i ∈ stItems n E f M, okI (n : Int) (stItems n E f M) i = true := by
  intro i hi
  rcases List.mem_append.1 hi with hi | hi
  · obtain ⟨p, hp, rfl⟩ := xItems_mem.1 hi
    have hg := aget_mem_some h.uniq hp
    unfold okI exIt
    simp only [if_true]
    rw [cnt_stItems]
    exact decide_eq_true (h.ref _ _ hg).1.symm
  · rcases mItems_mem.1 hi with ⟨id, hid, u, hu, hm, rfl⟩ | ⟨id, hid, rfl⟩
    · obtain ⟨m1, m2, m3, m4, p, hp, hoff⟩ := h.has _ (isMap_gAt h hid) u hu hm
      unfold okI
      have c1 : ¬ (2 : Int) = 1 := by omega
      simp only [if_neg c1, if_true]
      rw [seen_x hn h.uniq h hp]
      have e2 : (u : Int) < (n : Int) := by omega
      rcases List.mem_cons.1 hid with rfl | hid
      · simp [exIt, hoff, e2]
      · rw [seen_s hn h.uniq h hid]
        simp [exIt, hoff, e2]
    · unfold okI snI
      simp
theorem cnt3_app (l r : List It) : snapsN (l ++ r) = snapsN l + snapsN r := by unfold snapsN; rw [List.filter_append, List.length_append]
theorem cnt3_none {l : List It} (h : ∀ i ∈ l, i.kind ≠ 3) : snapsN l = 0 := by
  unfold snapsN
  rw [List.filter_eq_nil_iff.2 (fun i hi => by simpa using h i hi)]
  rfl
theorem snaps_st (n : Nat) (E : ExM) (f : MpF) (M : SnM) : snapsN (stItems n E f M) = M.length := by
  unfold stItems mItems
  rw [cnt3_app, cnt3_app, cnt3_none (l := xItems E), cnt3_none (l := mSl n f M (0 :: sIds M))]
  · unfold snapsN
    rw [List.filter_eq_self.2 (fun i hi => by obtain ⟨id, _, rfl⟩ := List.mem_map.1 hi; rfl), List.length_map, sIds_len]
    omega
  · intro i hi
    unfold mSl at hi
    obtain ⟨id, _, hi⟩ := List.mem_flatMap.1 hi
    obtain ⟨u, _, _, rfl⟩ := mem_slIs.1 hi
    simp
  · intro i hi
    obtain ⟨p, _, rfl⟩ := xItems_mem.1 hi
    simp [exIt]
/-- P26.3: a state's items make it. -/
theorem inv_makes (hn : n ≤ 512) (h : Inv n E f M) : makesB (n : Int) (stItems n E f M) = true := by
  rw [makes_end (List.all_eq_true.2 (inv_right hn h)) (nd_st hn f h.uniq h.uniqM h.ids) (List.all_eq_true.2 (inv_okI hn h)), snaps_st]
  exact decide_eq_true h.len
end
end Go.Proofs.YtgjjdfhoakailaaGreat
