/-
  state, plain: the counts of slices, map by map; what the state that wakes shows.
-/
import Derived.Test.YtgjjdfhoakailaaGreatStP4
namespace Go.Proofs.YtgjjdfhoakailaaGreat
open Go.RowKit Go.Maps Go.Sort Go.Shelf
set_option linter.unusedVariables false
set_option linter.unusedSimpArgs false

theorem cntI_perm {l r : List It} (h : l.Perm r) (K : Key) : cntI l K = cntI r K := by
  unfold cntI
  rw [(h.filter _).length_eq]
theorem cntI_flat {α : Type} (F : α → List It) (K : Key) : ∀ L : List α, cntI (L.flatMap F) K = (L.map (fun x => cntI (F x) K)).sum
  | [] => rfl
  | x :: L => by rw [List.flatMap_cons, cntI_append, List.map_cons, List.sum_cons, cntI_flat F K L]
theorem cntI_sn (ids : List Int) (K : Key) : cntI (ids.map snI) K = 0 := by
  unfold cntI
  rw [List.filter_eq_nil_iff.2 (fun i hi => by obtain ⟨id, _, rfl⟩ := List.mem_map.1 hi; simp [snI])]
  rfl
/-- How many slices of a map have a key. -/
def cS (n : Nat) (g : MpF) (K : Key) : Int := cntI (slIs n g 0) K
theorem cnt_slIs (n : Nat) (g : MpF) (id : Int) (K : Key) : cntI (slIs n g id) K = cS n g K := by
  unfold cS slIs
  rw [cntI_flat, cntI_flat]
  congr 1
  apply List.map_congr_left
  intro u _
  unfold slI
  split
  · rfl
  · unfold cntI
    simp only [List.filter_cons, List.filter_nil]
    split <;> simp_all
theorem cnt_mItems (n : Nat) (f : MpF) {M : SnM} (hu : Uniq M) (hz : ∀ p ∈ M, 1 ≤ p.1) (K : Key) : cntI (mItems n f M) K = cS n f K + (M.map (fun p => cS n p.2.2 K)).sum := by
  unfold mItems mSl
  rw [cntI_append, cntI_sn, List.flatMap_cons, cntI_append, gAt_zero, cnt_slIs, cntI_perm (List.Perm.flatMap_right _ (sIds_perm M)), cntI_flat, List.map_map, Int.add_zero]
  congr 2
  apply List.map_congr_left
  intro p hp
  show cntI (slIs n (gAt f M p.1) p.1) K = _
  rw [cnt_slIs, gAt_mem hu hz hp]
theorem Inv.count {n : Nat} {E : ExM} {f : MpF} {M : SnM} (h : Inv n E f M) (K : Key) : cntI (mItems n f M) K = cS n f K + (M.map (fun p => cS n p.2.2 K)).sum := cnt_mItems n f h.uniqM (fun p hp => (h.ids p hp).1) K
/-- How often an extent is wanted. -/
def wantedN (E : ExM) (K : Key) : Int := ((aget E K).getD zPl).ref
theorem Inv.wanted {n : Nat} {E : ExM} {f : MpF} {M : SnM} (h : Inv n E f M) (K : Key) : wantedN E K = cntI (mItems n f M) K := by
  unfold wantedN
  cases hg : aget E K with
  | some p => exact (h.ref K p hg).1
  | none =>
    by_cases hc : cntI (mItems n f M) K = 0
    · rw [hc]; rfl
    · obtain ⟨g, hgm, u, hu, hm, hk⟩ := (h.cnt K).1 hc
      obtain ⟨_, _, _, _, p, hp, _⟩ := h.has g hgm u hu hm
      rw [hk, hg] at hp
      cases hp
theorem Inv.isSome {n : Nat} {E : ExM} {f : MpF} {M : SnM} (h : Inv n E f M) (K : Key) : (aget E K).isSome = decide (cntI (mItems n f M) K ≠ 0) := by
  have h1 := h.wanted K
  unfold wantedN at h1
  cases hg : aget E K with
  | some p =>
    have := (h.ref K p hg).2
    rw [hg] at h1
    simp only [Option.getD_some] at h1
    rw [decide_eq_true (by omega)]
    rfl
  | none =>
    rw [hg] at h1
    rw [decide_eq_false (by rw [← h1]; simp [zPl])]
    rfl
theorem nil_of_none {α β : Type} [DecidableEq α] {M : List (α × β)} (h : ∀ K, aget M K = none) : M = [] := by
  cases M with
  | nil => rfl
  | cons p M => have := h p.1; simp [aget] at this

/-! ### The state that wakes -/
def wK : Key := ⟨9 :: List.replicate 31 0, by simp, by intro z hz; simp at hz; omega⟩
def wOp : OpV := ⟨1, 0, 0, 0, [⟨wK, ⟨500, 3, 2, 0⟩⟩], [⟨0, ⟨wK, 0, 255⟩⟩, ⟨1, ⟨wK, 1, 15⟩⟩]⟩
def sOp (k p n s : Int) : OpV := ⟨k, p, n, s, [], []⟩
def wF : MpF := upd (upd zF 0 ⟨wK, 0, 255⟩) 1 ⟨wK, 1, 15⟩
theorem wOp_right : rightB wOp = true := by decide +kernel
theorem wOp_err : wrE 4 [] wOp = 0 := by decide +kernel
theorem wOp_set : setAll 4 zF wOp.puts = wF := rfl
theorem wF_cnt : cS 4 wF wK = 2 := by decide +kernel
theorem zF_cnt (n : Nat) (K : Key) : cS n zF K = 0 := by
  unfold cS slIs
  rw [cntI_flat]
  have : ∀ l : List Nat, (l.map (fun u => cntI (slI zF 0 u) K)).sum = 0 := by
    intro l
    induction l with
    | nil => rfl
    | cons u l ih => rw [List.map_cons, List.sum_cons, ih]; rfl
  exact this _
theorem wF_clr : clrE 4 0 16 = 0 ∧ cS 4 (clrF 4 wF 0 16) wK = 0 := by decide +kernel
theorem sub_cnt {n : Nat} {g : MpF} {K : Key} (h : ∀ u, u < n → (g u).mask ≠ 0 → (g u).key ≠ K) : cS n g K = 0 := by
  have : ¬ cS n g K ≠ 0 := by
    intro hc
    have hm := (cnt_pos (n := n) (f := g) (M := []) List.Pairwise.nil (by simp) K).1 (by rw [cnt_mItems n g List.Pairwise.nil (by simp)]; simpa using hc)
    obtain ⟨g', hg, u, hu, h1, h2⟩ := hm
    rcases hg with rfl | ⟨p, hp, _⟩
    · exact h u hu h1 h2
    · cases hp
  omega
theorem do_write {n : Nat} {E : ExM} {f : MpF} {M : SnM} {o : OpV} {r : Int} {E' : ExM} {f' : MpF} {M' : SnM} (hd : DoR n E f M o r E' f' M') (hr : rightB o = true) (hk : o.kind = 1) : r = wrE n E o ∧ f' = (if wrE n E o = 0 then setAll n f o.puts else f) ∧ M' = M := by
  rcases hd with ⟨h, _⟩ | ⟨_, E1, hs, _⟩
  · rw [hr] at h; cases h
  · rcases hs with ⟨_, h1, _, h2, h3⟩ | ⟨h, _⟩ | ⟨h, _⟩ | ⟨h, _⟩ | ⟨h, _⟩
    · exact ⟨h1, h2, h3⟩
    all_goals omega
theorem do_discard {n : Nat} {E : ExM} {f : MpF} {M : SnM} {o : OpV} {r : Int} {E' : ExM} {f' : MpF} {M' : SnM} (hd : DoR n E f M o r E' f' M') (hr : rightB o = true) (hk : o.kind = 2) : r = clrE n o.pos o.n ∧ f' = clrF n f o.pos o.n ∧ M' = M := by
  rcases hd with ⟨h, _⟩ | ⟨_, E1, hs, _⟩
  · rw [hr] at h; cases h
  · rcases hs with ⟨h, _⟩ | ⟨_, _, h1, h2, h3⟩ | ⟨h, _⟩ | ⟨h, _⟩ | ⟨h, _⟩
    · omega
    · exact ⟨h1, h2, h3⟩
    all_goals omega
theorem do_snap {n : Nat} {E : ExM} {f : MpF} {M : SnM} {o : OpV} {r : Int} {E' : ExM} {f' : MpF} {M' : SnM} (hd : DoR n E f M o r E' f' M') (hr : rightB o = true) (hk : o.kind = 3) : SnapR f M o.snap r f' M' := by
  rcases hd with ⟨h, _⟩ | ⟨_, E1, hs, _⟩
  · rw [hr] at h; cases h
  · rcases hs with ⟨h, _⟩ | ⟨h, _⟩ | ⟨_, _, h1⟩ | ⟨h, _⟩ | ⟨h, _⟩
    · omega
    · omega
    · exact h1
    all_goals omega
theorem do_drop {n : Nat} {E : ExM} {f : MpF} {M : SnM} {o : OpV} {r : Int} {E' : ExM} {f' : MpF} {M' : SnM} (hd : DoR n E f M o r E' f' M') (hr : rightB o = true) (hk : o.kind = 4) : r = dropE M o.snap ∧ f' = f ∧ M' = adel M o.snap := by
  rcases hd with ⟨h, _⟩ | ⟨_, E1, hs, _⟩
  · rw [hr] at h; cases h
  · rcases hs with ⟨h, _⟩ | ⟨h, _⟩ | ⟨h, _⟩ | ⟨_, _, h1⟩ | ⟨h, _⟩
    · omega
    · omega
    · omega
    · exact h1
    · omega
theorem do_back {n : Nat} {E : ExM} {f : MpF} {M : SnM} {o : OpV} {r : Int} {E' : ExM} {f' : MpF} {M' : SnM} (hd : DoR n E f M o r E' f' M') (hr : rightB o = true) (hk : o.kind = 5) : r = dropE M o.snap ∧ f' = backF f M o.snap ∧ M' = M := by
  rcases hd with ⟨h, _⟩ | ⟨_, E1, hs, _⟩
  · rw [hr] at h; cases h
  · rcases hs with ⟨h, _⟩ | ⟨h, _⟩ | ⟨h, _⟩ | ⟨h, _⟩ | ⟨_, _, h1⟩
    · omega
    · omega
    · omega
    · omega
    · exact h1
/-- Step by step: what is told of the state that wakes. -/
structure Wk1 (E : ExM) (f : MpF) (M : SnM) : Prop where
  inv : Inv 4 E f M
  f : f = wF
  M : M = []
theorem wake1 {r : Int} {E' : ExM} {f' : MpF} {M' : SnM} (hd : DoR 4 [] zF [] wOp r E' f' M') : r = 0 ∧ Wk1 E' f' M' ∧ wantedN E' wK = 2 := by
  obtain ⟨h1, h2, h3⟩ := do_write hd wOp_right rfl
  rw [wOp_err] at h1 h2
  rw [if_pos rfl, wOp_set] at h2
  have hi := (do_inv (by omega) (Inv.new 4) hd).1
  refine ⟨h1, ⟨hi, h2, h3⟩, ?_⟩
  rw [hi.wanted, hi.count, h2, h3, wF_cnt]
  rfl
theorem wake2 {E : ExM} {f : MpF} {M : SnM} (h : Wk1 E f M) {r : Int} {E' : ExM} {f' : MpF} {M' : SnM} (hd : DoR 4 E f M wOp r E' f' M') : r = 7 ∧ Wk1 E' f' M' := by
  obtain ⟨h1, h2, h3⟩ := do_write hd wOp_right rfl
  have h0 : (aget E wK).isSome = true := by
    rw [h.inv.isSome, h.inv.count, h.f, h.M, wF_cnt]
    rfl
  have ht : thereB E wOp.news = true := by simp [thereB, wOp, h0]
  have h1' : r = 7 := by rw [h1]; exact if_pos ht
  obtain ⟨rfl, rfl, rfl⟩ := do_err h.inv hd (by omega)
  exact ⟨h1', h⟩
structure Wk3 (E : ExM) (f : MpF) (M : SnM) : Prop where
  inv : Inv 4 E f M
  f : f = wF
  M : ∃ g, M = [(1, (g, wF))]
theorem wake3 {E : ExM} {f : MpF} {M : SnM} (h : Wk1 E f M) {r : Int} {E' : ExM} {f' : MpF} {M' : SnM} (hd : DoR 4 E f M (sOp 3 0 0 1) r E' f' M') : r = 0 ∧ Wk3 E' f' M' ∧ wantedN E' wK = 4 := by
  obtain ⟨h1, h2, h3⟩ := do_snap hd rfl rfl
  have he : snapE M (sOp 3 0 0 1).snap = 0 := by rw [h.M]; rfl
  have hi := (do_inv (by omega) h.inv hd).1
  rcases h3 with ⟨h3, _⟩ | ⟨_, g, h3⟩
  · exact absurd he h3
  · have hM : M' = [(1, (g, wF))] := by rw [h3, h.M, h.f]; rfl
    have hf : f' = wF := h2.trans h.f
    refine ⟨h1.trans he, ⟨hi, hf, g, hM⟩, ?_⟩
    rw [hi.wanted, hi.count, hf, hM, wF_cnt, List.map_cons, List.map_nil]
    show (2 : Int) + (cS 4 wF wK + 0) = 4
    rw [wF_cnt]
    rfl
structure Wk4 (E : ExM) (f : MpF) (M : SnM) : Prop where
  inv : Inv 4 E f M
  f : f = clrF 4 wF 0 16
  M : ∃ g, M = [(1, (g, wF))]
theorem wake4 {E : ExM} {f : MpF} {M : SnM} (h : Wk3 E f M) {r : Int} {E' : ExM} {f' : MpF} {M' : SnM} (hd : DoR 4 E f M (sOp 2 0 16 0) r E' f' M') : r = 0 ∧ Wk4 E' f' M' ∧ wantedN E' wK = 2 := by
  obtain ⟨h1, h2, h3⟩ := do_discard hd rfl rfl
  have hi := (do_inv (by omega) h.inv hd).1
  obtain ⟨g, hM⟩ := h.M
  rw [h.f] at h2
  refine ⟨h1.trans wF_clr.1, ⟨hi, h2, g, h3.trans hM⟩, ?_⟩
  rw [hi.wanted, hi.count, h2, h3, hM, List.map_cons, List.map_nil]
  show cS 4 (clrF 4 wF 0 16) wK + (cS 4 wF wK + 0) = 2
  rw [wF_clr.2, wF_cnt]
  rfl
theorem wake5 {E : ExM} {f : MpF} {M : SnM} (h : Wk4 E f M) {r : Int} {E' : ExM} {f' : MpF} {M' : SnM} (hd : DoR 4 E f M (sOp 5 0 0 2) r E' f' M') : r = 13 ∧ Wk4 E' f' M' := by
  obtain ⟨h1, h2, h3⟩ := do_back hd rfl rfl
  obtain ⟨g, hM⟩ := h.M
  have he : r = 13 := by rw [h1, hM]; rfl
  obtain ⟨rfl, rfl, rfl⟩ := do_err h.inv hd (by omega)
  exact ⟨he, h⟩
theorem wF_clr_all : ∀ u, u < 4 → (clrF 4 wF 0 16 u).mask = 0 := by decide +kernel
theorem wake6 {E : ExM} {f : MpF} {M : SnM} (h : Wk4 E f M) {r : Int} {E' : ExM} {f' : MpF} {M' : SnM} (hd : DoR 4 E f M (sOp 4 0 0 1) r E' f' M') : r = 0 ∧ E' = [] ∧ M' = [] ∧ mItems 4 f' M' = [] := by
  obtain ⟨h1, h2, h3⟩ := do_drop hd rfl rfl
  obtain ⟨g, hM⟩ := h.M
  have hi := (do_inv (by omega) h.inv hd).1
  rw [h.f] at h2
  have hM' : M' = [] := by rw [h3, hM]; rfl
  refine ⟨by rw [h1, hM]; rfl, nil_of_none (fun K => ?_), hM', ?_⟩
  · have := hi.isSome K
    rw [hi.count, h2, hM', sub_cnt (fun u hu hm => absurd (wF_clr_all u hu) hm)] at this
    simpa using this
  · rw [hM', h2]
    unfold mItems mSl sIds
    have e0 : slIs 4 (clrF 4 wF 0 16) 0 = [] := by
      unfold slIs
      rw [List.flatMap_eq_nil_iff]
      intro u hu
      unfold slI
      rw [if_pos (wF_clr_all u (List.mem_range.1 hu))]
    simp only [List.map_nil, List.mergeSort_nil, List.flatMap_cons, List.flatMap_nil, gAt_zero, e0, List.append_nil]
end Go.Proofs.YtgjjdfhoakailaaGreat
