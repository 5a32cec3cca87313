/-
  what this claim needs of: StI3, StI4, StI5, StI6, StI7 (written by cut.py).
-/
import Derived.Test.YtgjjdfhoakailaaGreatBStI2
namespace Go.Proofs.YtgjjdfhoakailaaGreat
open Go.RowKit Go.Maps Go.Sort Go.Shelf
set_option linter.unusedVariables false
set_option linter.unusedSimpArgs false

def okR (units : Int) (l : List It) (i : It) : Bool :=
  if i.kind = 1 then decide (cntI l i.key = i.pl.ref)
  else if i.kind = 2 then (match extI l i.sl.key with | none => false | some x => decide (i.sl.off < x.pl.uni)) && decide (i.unit < units) && (decide (i.snap ≤ 0) || snapB l i.snap)
  else true
end Go.Proofs.YtgjjdfhoakailaaGreat
namespace Go.Proofs.YtgjjdfhoakailaaGreat
open Go.RowKit Go.Maps Go.Sort Go.Shelf
set_option linter.unusedVariables false
set_option linter.unusedSimpArgs false

theorem right_same (i : It) : rightR i = rightI i := by
  obtain ⟨k, K, p, s, u, sl⟩ := i
  rw [Bool.eq_iff_iff]
  unfold rightR rightI fineI bareI placeB sliceB
  by_cases h1 : k = 1
  · subst h1
    simp only [↓reduceIte, Bool.and_eq_true, decide_eq_true_eq, It.mk.injEq, true_and]
    constructor
    · rintro ⟨⟨⟨⟨⟨⟨a, b⟩, c⟩, d⟩, e⟩, f⟩, g⟩
      exact ⟨⟨⟨⟨a, b⟩, c⟩, d⟩, e.symm, f.symm, g.symm⟩
    · rintro ⟨⟨⟨⟨a, b⟩, c⟩, d⟩, e, f, g⟩
      exact ⟨⟨⟨⟨⟨⟨a, b⟩, c⟩, d⟩, e.symm⟩, f.symm⟩, g.symm⟩
  · by_cases h2 : k = 2
    · subst h2
      simp only [↓reduceIte, Int.reduceEq, Bool.and_eq_true, decide_eq_true_eq, It.mk.injEq, true_and, and_true]
      constructor
      · rintro ⟨⟨⟨⟨a, b⟩, c, d⟩, e⟩, f⟩
        exact ⟨⟨⟨⟨a, b⟩, c⟩, d⟩, e.symm, f.symm⟩
      · rintro ⟨⟨⟨⟨a, b⟩, c⟩, d⟩, e, f⟩
        exact ⟨⟨⟨⟨a, b⟩, c, d⟩, e.symm⟩, f.symm⟩
    · by_cases h3 : k = 3
      · subst h3
        simp only [↓reduceIte, Int.reduceEq, Bool.and_eq_true, decide_eq_true_eq, It.mk.injEq, true_and, and_true]
        constructor
        · rintro ⟨⟨⟨⟨a, b⟩, c⟩, d⟩, e⟩
          exact ⟨a, d.symm, e.symm, b.symm, c.symm⟩
        · rintro ⟨a, d, e, b, c⟩
          exact ⟨⟨⟨⟨a, b.symm⟩, c.symm⟩, d.symm⟩, e.symm⟩
      · simp only [h1, h2, h3, if_false, Bool.false_and]
theorem right_unit {i : It} (h : rightI i = true) (hk : i.kind = 3) : i.unit = 0 ∧ i.sl = zSl ∧ i.key = zKey ∧ i.pl = zPl ∧ 1 ≤ i.snap ∧ i.snap ≤ 1073741824 := by
  rw [← right_same] at h
  unfold rightR inB at h
  rw [if_neg (by omega), if_neg (by omega), if_pos hk] at h
  simp only [Bool.and_eq_true, decide_eq_true_eq] at h
  exact ⟨h.1.1.1.2, h.1.1.2, h.1.2, h.2, h.1.1.1.1⟩
theorem right_kinds {i : It} (h : rightI i = true) : i.kind = 1 ∨ i.kind = 2 ∨ i.kind = 3 := by
  rw [← right_same] at h
  unfold rightR at h
  by_cases h1 : i.kind = 1
  · exact .inl h1
  · by_cases h2 : i.kind = 2
    · exact .inr (.inl h2)
    · by_cases h3 : i.kind = 3
      · exact .inr (.inr h3)
      · rw [if_neg h1, if_neg h2, if_neg h3] at h
        cases h
theorem alike_st {a b : It} (ha : ItB a) (hb : ItB b) (ra : rightI a = true) (rb : rightI b = true) : alikeB a b = true ↔ stT a = stT b := by
  have hA := stands_ok ha
  have hB := stands_ok hb
  have e1 : stT a = stT b ↔ standsI a = standsI b := ⟨fun h => mkTh_inj hA hB h, fun h => by unfold stT; rw [h]⟩
  rw [e1]
  unfold alikeB standsI
  by_cases hk : a.kind = b.kind
  · rw [decide_eq_true hk, Bool.true_and]
    by_cases h1 : a.kind = 1
    · have h1' : b.kind = 1 := by omega
      simp only [if_pos h1, if_pos h1', decide_eq_true_eq, Th.mk.injEq, hk, true_and, and_true]
    · have h1' : ¬ b.kind = 1 := by omega
      simp only [if_neg h1, if_neg h1', Th.mk.injEq, hk, true_and]
      by_cases h2 : b.kind = 2
      · simp only [if_pos h2, Bool.and_eq_true, decide_eq_true_eq]
      · have h3 : a.kind = 3 := by have := right_kinds ra; omega
        have u1 := (right_unit ra h3).1
        have u2 := (right_unit rb (by omega)).1
        simp only [if_neg h2, decide_eq_true_eq, u1, u2, and_true]
  · rw [decide_eq_false hk, Bool.false_and]
    constructor
    · intro h; cases h
    · intro h
      exfalso
      apply hk
      by_cases h1 : a.kind = 1
      · rw [if_pos h1] at h
        by_cases h2 : b.kind = 1
        · omega
        · rw [if_neg h2] at h
          exact congrArg Th.kind h
      · rw [if_neg h1] at h
        by_cases h2 : b.kind = 1
        · rw [if_pos h2] at h
          exact congrArg Th.kind h
        · rw [if_neg h2] at h
          exact congrArg Th.kind h
theorem stT_thE {x : It} (hx : ItB x) {K : Key} : stT x = thE K ↔ (x.kind = 1 ∧ x.key = K) := by
  constructor
  · intro h
    have h2 := mkTh_inj (stands_ok hx) (thE_ok K) h
    unfold standsI at h2
    by_cases h1 : x.kind = 1
    · rw [if_pos h1] at h2
      exact ⟨h1, congrArg Th.key h2⟩
    · rw [if_neg h1] at h2
      exact absurd (congrArg Th.kind h2) h1
  · rintro ⟨h1, h2⟩
    unfold stT thE standsI
    rw [if_pos h1, h1, h2]
theorem seen_ext {l : List It} (hb : ∀ i ∈ l, ItB i) (hn : (l.map stT).Nodup) (K : Key) : aget (seenM l) (thE K) = extI l K := by
  unfold extI
  cases hf : l.find? (isExt K) with
  | none =>
    refine seenM_none (fun x hx h => ?_)
    have h1 := (stT_thE (hb x hx)).1 h
    have h2 := List.find?_eq_none.1 hf x hx
    apply h2
    unfold isExt
    simp [h1.1, h1.2]
  | some x =>
    have hx := List.mem_of_find?_eq_some hf
    have h1 := List.find?_some hf
    unfold isExt at h1
    simp only [Bool.and_eq_true, beq_iff_eq, decide_eq_true_eq] at h1
    rw [← (stT_thE (hb x hx)).2 h1]
    exact seenM_get hn hx
theorem seen_snap {l : List It} (hb : ∀ i ∈ l, ItB i) (hr : ∀ i ∈ l, rightI i = true) {s : Int} (hs : i64B s) : (aget (seenM l) (thS s)).isSome = snapB l s := by
  rw [seenM_some, Bool.eq_iff_iff, decide_eq_true_eq]
  unfold snapB
  rw [List.any_eq_true, List.mem_map]
  have hok : ThOk ⟨3, zKey, s, 0⟩ := ⟨by simp, hs, i64B_zero⟩
  constructor
  · rintro ⟨x, hx, h⟩
    have h2 := mkTh_inj (stands_ok (hb x hx)) hok h
    unfold standsI at h2
    refine ⟨x, hx, ?_⟩
    by_cases h1 : x.kind = 1
    · rw [if_pos h1, h1] at h2
      exact absurd (congrArg Th.kind h2) (show ¬ (1 : Int) = 3 by decide)
    · rw [if_neg h1] at h2
      have e1 : x.kind = 3 := congrArg Th.kind h2
      have e2 : x.snap = s := congrArg Th.snap h2
      simp [e1, e2]
  · rintro ⟨x, hx, h⟩
    simp only [Bool.and_eq_true, beq_iff_eq, decide_eq_true_eq] at h
    refine ⟨x, hx, ?_⟩
    have hu := (right_unit (hr x hx) h.1).1
    unfold stT thS standsI
    rw [if_neg (by omega), h.1, h.2, hu]
theorem ok_same {units : Int} {l : List It} (hb : ∀ i ∈ l, ItB i) (hr : ∀ i ∈ l, rightI i = true) (hn : (l.map stT).Nodup) {i : It} (hi : i ∈ l) : okR units l i = okI units l i := by
  unfold okR okI
  rw [seen_ext hb hn, seen_snap hb hr (hb i hi).2.2.1]
  by_cases h1 : i.kind = 1
  · rw [if_pos h1, if_pos h1]
  · rw [if_neg h1, if_neg h1]
    by_cases h2 : i.kind = 2
    · rw [if_pos h2, if_pos h2]
      cases extI l i.sl.key <;> rfl
    · rw [if_neg h2, if_neg h2]
end Go.Proofs.YtgjjdfhoakailaaGreat
namespace Go.Proofs.YtgjjdfhoakailaaGreat
open Go.RowKit Go.Maps Go.Sort Go.Shelf
set_option linter.unusedVariables false
set_option linter.unusedSimpArgs false

theorem ext_form {x : It} (h : rightI x = true) (hk : x.kind = 1) : x = exIt (x.key, x.pl) ∧ placeB x.pl true = true ∧ x.snap = 0 := by
  rw [← right_same] at h
  unfold rightR at h
  rw [if_pos hk] at h
  simp only [Bool.and_eq_true, decide_eq_true_eq] at h
  obtain ⟨⟨⟨h1, h2⟩, h3⟩, h4⟩ := h
  refine ⟨?_, h1, h2⟩
  cases x
  simp only [exIt, It.mk.injEq] at *
  exact ⟨hk, trivial, trivial, h2, h3, h4⟩
theorem sl_form {x : It} (h : rightI x = true) (hk : x.kind = 2) : (x = sI x.snap x.unit.toNat x.sl ∧ x.unit.toNat < 512) ∧ (0 ≤ x.snap ∧ x.snap ≤ 1073741824) ∧ (0 ≤ x.unit ∧ x.unit ≤ 511) ∧ 0 ≤ x.sl.off ∧ x.sl.off ≤ 15 ∧ 1 ≤ x.sl.mask ∧ x.sl.mask ≤ 255 := by
  rw [← right_same] at h
  unfold rightR sliceB inB at h
  rw [if_neg (by omega), if_pos hk] at h
  simp only [Bool.and_eq_true, decide_eq_true_eq] at h
  obtain ⟨⟨⟨⟨h1, h2⟩, h3, h4⟩, h5⟩, h6⟩ := h
  refine ⟨⟨?_, by omega⟩, h1, h2, h3.1, h3.2, h4.1, h4.2⟩
  cases x
  simp only [sI, It.mk.injEq] at *
  exact ⟨hk, h5, h6, trivial, by omega, trivial⟩
theorem sn_form {x : It} (h : rightI x = true) (hk : x.kind = 3) : x = snI x.snap := by
  have h1 := right_unit h hk
  cases x
  simp only [snI, It.mk.injEq] at *
  exact ⟨hk, h1.2.2.1, h1.2.2.2.1, trivial, h1.1, h1.2.1⟩
structure OfI (n : Nat) (p : List It) (t : Int) (E : ExM) (f : MpF) (M : SnM) : Prop where
  uniq : Uniq E
  uniqM : Uniq M
  ids : IdsR M
  ext : ∀ K q, aget E K = some q ↔ exIt (K, q) ∈ p
  cur : ∀ u s, (u < n ∧ s.mask ≠ 0 ∧ f u = s) ↔ sI t u s ∈ p
  old : ∀ q ∈ M, ∀ u s, (u < n ∧ s.mask ≠ 0 ∧ q.2.2 u = s) ↔ sI q.1 u s ∈ p
  done : ∀ x ∈ p, x.kind ≠ 1 → x.snap = t ∨ ∃ q ∈ M, q.1 = x.snap
  here : ∀ q ∈ M, ∃ x ∈ p, x.kind ≠ 1 ∧ x.snap = q.1
  low : ∀ q ∈ M, t < q.1
  t0 : 0 ≤ t ∧ t ≤ 1073741824
  mask : ∀ g, IsMap f M g → ∀ u, 0 ≤ (g u).mask ∧ (g u).mask ≤ 255
def Fresh0 (p : List It) (t : Int) (f : MpF) (M : SnM) : Prop := t = 0 ∧ M = [] ∧ (∀ u, (f u).mask = 0) ∧ ∀ y ∈ p, y.kind = 1
def Reach (p : List It) (t : Int) : Prop := ∃ y ∈ p, y.kind ≠ 1 ∧ y.snap = t
theorem OfI.start (n : Nat) : OfI n [] 0 [] zF [] ∧ Fresh0 [] 0 zF [] := by
  refine ⟨⟨List.Pairwise.nil, List.Pairwise.nil, (by intro q hq; cases hq), ?_, ?_, (by intro q hq; cases hq), (by intro x hx; cases hx), (by intro q hq; cases hq), (by intro q hq; cases hq), (by omega), ?_⟩, rfl, rfl, fun u => rfl, (by intro x hx; cases hx)⟩
  · intro K q; simp [aget]
  · intro u s
    constructor
    · rintro ⟨_, h1, h2⟩
      rw [← h2] at h1
      exact absurd rfl h1
    · intro h; cases h
  · rintro g (rfl | ⟨q, hq, _⟩) u
    · exact ⟨Int.le_refl _, show (0 : Int) ≤ 255 by omega⟩
    · cases hq
section
variable {n : Nat} {p : List It} {t : Int} {E : ExM} {f : MpF} {M : SnM}
/-- An extent. -/
theorem OfI.extE (h : OfI n p t E f M) {x : It} (hr : rightI x = true) (hk : x.kind = 1) (hn : aget E x.key = none) : OfI n (p ++ [x]) t (addX E x.key x.pl) f M := by
  obtain ⟨hx, hp, hs⟩ := ext_form hr hk
  have he : addE E x.key x.pl = 0 := by
    unfold addE
    have hm : mayP x.pl = true := by
      unfold placeB inB at hp
      unfold mayP
      simp only [if_true, Bool.and_eq_true, decide_eq_true_eq] at hp ⊢
      omega
    rw [hm, hn]
    rfl
  have e1 : addX E x.key x.pl = aput E x.key x.pl := by unfold addX; rw [if_pos he]
  rw [e1]
  have nosl : ∀ (i : Int) (u : Nat) (s : Sl), sI i u s ∈ p ++ [x] ↔ sI i u s ∈ p := fun i u s => by
    rw [List.mem_append, List.mem_singleton]
    constructor
    · rintro (h | h)
      · exact h
      · exact absurd (congrArg It.kind h) (by rw [hk]; exact (show ¬ (2 : Int) = 1 by decide))
    · exact .inl
  refine ⟨h.uniq.put _ _, h.uniqM, h.ids, fun K q => ?_, fun u s => by rw [nosl]; exact h.cur u s, fun q hq u s => by rw [nosl]; exact h.old q hq u s, fun y hy hyk => ?_, fun q hq => ?_, h.low, h.t0, h.mask⟩
  · rw [aget_put, List.mem_append, List.mem_singleton]
    by_cases hK : x.key = K
    · rw [if_pos hK]
      constructor
      · intro e
        injection e with e
        right
        rw [hx, ← hK, ← e]
      · rintro (hm | hm)
        · have := (h.ext K q).2 hm
          rw [← hK, hn] at this
          cases this
        · have : x.pl = q := by rw [← hm]; rfl
          rw [this]
    · rw [if_neg hK, h.ext]
      constructor
      · exact .inl
      · rintro (hm | hm)
        · exact hm
        · exact absurd (by rw [← hm]; rfl) hK
  · rcases List.mem_append.1 hy with hy | hy
    · exact h.done y hy hyk
    · rw [List.mem_singleton] at hy
      rw [hy] at hyk
      exact absurd hk hyk
  · obtain ⟨y, hy, h1⟩ := h.here q hq
    exact ⟨y, List.mem_append_left _ hy, h1⟩
/-- A slice of the map at hand. -/
theorem OfI.setS (h : OfI n p t E f M) {x : It} (hr : rightI x = true) (hk : x.kind = 2) (ht : x.snap = t) (hu : x.unit < n) (hnew : ∀ s, sI t x.unit.toNat s ∉ p) : OfI n (p ++ [x]) t E (setF n f x.unit x.sl) M := by
  obtain ⟨⟨hx, h512⟩, hs, hun, ho1, ho2, hm1, hm2⟩ := sl_form hr hk
  have e1 : setF n f x.unit x.sl = upd f x.unit.toNat x.sl := by
    unfold setF setE
    rw [if_pos (by rw [if_pos (by omega)])]
  rw [e1]
  have hxt : x = sI t x.unit.toNat x.sl := by rw [← ht]; exact hx
  have hlt := h.low
  refine ⟨h.uniq, h.uniqM, h.ids, fun K q => ?_, fun u s => ?_, fun q hq u s => ?_, fun y hy hyk => ?_, fun q hq => ?_, h.low, h.t0, ?_⟩
  · rw [h.ext, List.mem_append, List.mem_singleton]
    constructor
    · exact .inl
    · rintro (hm | hm)
      · exact hm
      · exact absurd (congrArg It.kind hm) (by rw [hk]; exact (show ¬ (1 : Int) = 2 by decide))
  · rw [List.mem_append, List.mem_singleton]
    unfold upd
    by_cases hue : u = x.unit.toNat
    · subst hue
      rw [if_pos rfl]
      constructor
      · rintro ⟨_, _, e⟩
        right
        rw [hxt, ← e]
        rfl
      · rintro (hm | hm)
        · exact absurd hm (hnew s)
        · have e : s = x.sl := by
            have := congrArg It.sl hm
            exact this
          exact ⟨by omega, by rw [e]; omega, e.symm⟩
    · rw [if_neg hue, h.cur]
      constructor
      · exact .inl
      · rintro (hm | hm)
        · exact hm
        · rw [hxt] at hm
          exact absurd (sI_inj hm).2.1 hue
  · rw [h.old q hq, List.mem_append, List.mem_singleton]
    constructor
    · exact .inl
    · rintro (hm | hm)
      · exact hm
      · rw [hxt] at hm
        have := (sI_inj hm).1
        have := hlt q hq
        omega
  · rcases List.mem_append.1 hy with hy | hy
    · exact h.done y hy hyk
    · rw [List.mem_singleton] at hy
      rw [hy]
      exact .inl ht
  · obtain ⟨y, hy, h1⟩ := h.here q hq
    exact ⟨y, List.mem_append_left _ hy, h1⟩
  · rintro g (rfl | ⟨q, hq, rfl⟩) u
    · unfold upd
      split
      · omega
      · exact h.mask f (.inl rfl) u
    · exact h.mask _ (.inr ⟨q, hq, rfl⟩) u
/-- A snapshot's item. -/
theorem OfI.addN (h : OfI n p t E f M) {x : It} (hr : rightI x = true) (hk : x.kind = 3) (ht : x.snap = t) : OfI n (p ++ [x]) t E f M := by
  have nosl : ∀ (i : Int) (u : Nat) (s : Sl), sI i u s ∈ p ++ [x] ↔ sI i u s ∈ p := fun i u s => by
    rw [List.mem_append, List.mem_singleton]
    constructor
    · rintro (h | h)
      · exact h
      · exact absurd (congrArg It.kind h) (by rw [hk]; exact (show ¬ (2 : Int) = 3 by decide))
    · exact .inl
  refine ⟨h.uniq, h.uniqM, h.ids, fun K q => ?_, fun u s => by rw [nosl]; exact h.cur u s, fun q hq u s => by rw [nosl]; exact h.old q hq u s, fun y hy hyk => ?_, fun q hq => ?_, h.low, h.t0, h.mask⟩
  · rw [h.ext, List.mem_append, List.mem_singleton]
    constructor
    · exact .inl
    · rintro (hm | hm)
      · exact hm
      · exact absurd (congrArg It.kind hm) (by rw [hk]; exact (show ¬ (1 : Int) = 3 by decide))
  · rcases List.mem_append.1 hy with hy | hy
    · exact h.done y hy hyk
    · rw [List.mem_singleton] at hy
      rw [hy]
      exact .inl ht
  · obtain ⟨y, hy, h1⟩ := h.here q hq
    exact ⟨y, List.mem_append_left _ hy, h1⟩
theorem bit_full : ∀ m, m < 256 → anM ((m : Nat) : Int) ((2 : Int) ^ 8 - (2 : Int) ^ 0) = 0 := by decide +kernel
theorem clr_all (hn : n ≤ 512) (hm : ∀ u, 0 ≤ (f u).mask ∧ (f u).mask ≤ 255) : clrE n 0 ((n : Int) * 8) = 0 ∧ ∀ u, (u < n → (clrF n f 0 ((n : Int) * 8) u).mask = 0) ∧ 0 ≤ (clrF n f 0 ((n : Int) * 8) u).mask ∧ (clrF n f 0 ((n : Int) * 8) u).mask ≤ 255 := by
  have hc : clrE n 0 ((n : Int) * 8) = 0 := by unfold clrE; rw [if_neg (by omega)]
  refine ⟨hc, fun u => ?_⟩
  have hs : SubSl (clrF n f 0 ((n : Int) * 8) u) (f u) := by
    unfold clrF
    rw [if_pos hc]
    exact clrGo_sub _ f _ _ hm u
  have h1 := hs.1
  have h2 := hs.2.1
  have h3 := hm u
  refine ⟨fun hu => ?_, by omega, by omega⟩
  have hb := (clr_bits (Int.le_refl 0) (by omega) hc u h3).1
  rw [hb]
  have e1 : bitGo (u : Int) 0 (0 + (n : Int) * 8) 8 (f u).mask = bitF 0 8 8 (f u).mask := bit_go (fun k hk => by omega) 8 (by omega)
  rw [e1]
  have e2 := bit_all (f u).mask.toNat (by omega) 8 (by omega) 0 (by omega) (by omega)
  have e3 := bit_full (f u).mask.toNat (by omega)
  have e4 : (((f u).mask.toNat : Nat) : Int) = (f u).mask := by omega
  rw [e4] at e2 e3
  rw [← e2, e3]
/-- A map is whole, and becomes a snapshot. -/
theorem OfI.end_ (hn : n ≤ 512) (h : OfI n p t E f M) (ht : t ≠ 0) (hR : Reach p t) {t' : Int} (h' : 0 ≤ t' ∧ t' < t) (v : Nat) : aget M t = none ∧ OfI n p t' E (clrF n f 0 ((n : Int) * 8)) (aput M t (v, f)) := by
  have hg : aget M t = none := by
    cases hg : aget M t with
    | none => rfl
    | some q =>
      have := h.low _ (aget_mem hg)
      simp only at this
      omega
  have hmask := clr_all (n := n) (f := f) hn (h.mask f (.inl rfl))
  have hid : 1 ≤ t ∧ t ≤ 1073741824 := by have := h.t0; omega
  refine ⟨hg, h.uniq, h.uniqM.put _ _, put_ids hid h.ids, h.ext, fun u s => ?_, fun q hq u s => ?_, fun x hx hxk => ?_, fun q hq => ?_, fun q hq => ?_, (by have := h.t0; omega), ?_⟩
  · constructor
    · rintro ⟨h1, h2, h3⟩
      rw [← h3] at h2
      exact absurd ((hmask.2 u).1 h1) h2
    · intro hm
      exfalso
      rcases h.done _ hm (show ¬ (2 : Int) = 1 by decide) with e | ⟨q, hq, e⟩
      · have : t' = t := e
        omega
      · have h1 : q.1 = t' := e
        have := h.low q hq
        omega
  · rcases (mem_put hg).1 hq with rfl | hq
    · exact h.cur u s
    · exact h.old q hq u s
  · rcases h.done x hx hxk with e | ⟨q, hq, e⟩
    · exact .inr ⟨_, (mem_put hg).2 (.inl rfl), e.symm⟩
    · exact .inr ⟨q, (mem_put hg).2 (.inr hq), e⟩
  · rcases (mem_put hg).1 hq with rfl | hq
    · exact hR
    · exact h.here q hq
  · rcases (mem_put hg).1 hq with rfl | hq
    · exact h'.2
    · have := h.low q hq; omega
  · rintro g (rfl | ⟨q, hq, rfl⟩) u
    · exact (hmask.2 u).2
    · rcases (mem_put hg).1 hq with rfl | hq
      · exact h.mask f (.inl rfl) u
      · exact h.mask _ (.inr ⟨q, hq, rfl⟩) u
/-- Nothing yet but extents. -/
theorem OfI.begin_ (h : OfI n p t E f M) (hF : Fresh0 p t f M) {t' : Int} (h' : 0 ≤ t' ∧ t' ≤ 1073741824) : OfI n p t' E f M := by
  obtain ⟨ht, hM, hf, hp⟩ := hF
  subst hM
  refine ⟨h.uniq, h.uniqM, h.ids, h.ext, fun u s => ?_, (by intro q hq; cases hq), fun x hx hxk => absurd (hp x hx) hxk, (by intro q hq; cases hq), (by intro q hq; cases hq), h', h.mask⟩
  constructor
  · rintro ⟨_, h2, h3⟩
    rw [← h3] at h2
    exact absurd (hf u) h2
  · intro hm
    exact absurd (hp _ hm) (show ¬ (2 : Int) = 1 by decide)
end
end Go.Proofs.YtgjjdfhoakailaaGreat
namespace Go.Proofs.YtgjjdfhoakailaaGreat
open Go.RowKit Go.Maps Go.Sort Go.Shelf
set_option linter.unusedVariables false
set_option linter.unusedSimpArgs false

theorem nodup_sub {α : Type} [BEq α] [LawfulBEq α] : ∀ (A B : List α), A.Nodup → (∀ x ∈ A, x ∈ B) → A.length ≤ B.length
  | [], _, _, _ => by simp
  | a :: A, B, hn, hs => by
    obtain ⟨h1, h2⟩ := List.nodup_cons.1 hn
    have ha : a ∈ B := hs a (List.mem_cons_self ..)
    have ih := nodup_sub A (B.erase a) h2 (fun x hx => (List.mem_erase_of_ne (fun e : x = a => h1 (by rw [← e]; exact hx))).2 (hs x (List.mem_cons_of_mem _ hx)))
    rw [List.length_erase_of_mem ha] at ih
    have := List.length_pos_of_mem ha
    rw [List.length_cons]
    omega
/-- What makes asks, one by one. -/
structure MkOk (n : Nat) (l : List It) : Prop where
  b : ∀ i ∈ l, ItB i
  right : ∀ i ∈ l, rightI i = true
  nd : (l.map stT).Nodup
  ok : ∀ i ∈ l, okI (n : Int) l i = true
  few : snapsN l ≤ 8
theorem MkOk.of {n : Nat} {l : List It} (hb : ∀ i ∈ l, ItB i) (h : makesB (n : Int) l = true) : MkOk n l := by
  unfold makesB at h
  simp only [Bool.and_eq_true, decide_eq_true_eq, List.all_eq_true] at h
  exact ⟨hb, h.1.1.1, h.1.1.2, h.1.2, h.2⟩
section
variable {n : Nat} {l p : List It} {t : Int} {E : ExM} {f : MpF} {M : SnM}
theorem MkOk.there (h : MkOk n l) {y : It} (hy : y ∈ l) (hk : y.kind ≠ 1) (hs : y.snap ≠ 0) : snI y.snap ∈ l := by
  rcases right_kinds (h.right y hy) with h1 | h2 | h3
  · exact absurd h1 hk
  · have hf := sl_form (h.right y hy) h2
    have ho := h.ok y hy
    unfold okI at ho
    rw [if_neg hk, if_pos h2] at ho
    cases hg : aget (seenM l) (thE y.sl.key) with
    | none => rw [hg] at ho; cases ho
    | some z =>
      rw [hg] at ho
      simp only [Bool.and_eq_true, Bool.or_eq_true, decide_eq_true_eq] at ho
      rcases ho.2 with h4 | h4
      · omega
      · rw [seen_snap h.b h.right (h.b y hy).2.2.1] at h4
        unfold snapB at h4
        obtain ⟨z, hz, hzk⟩ := List.any_eq_true.1 h4
        simp only [Bool.and_eq_true, beq_iff_eq, decide_eq_true_eq] at hzk
        have := sn_form (h.right z hz) hzk.1
        rw [hzk.2] at this
        rw [← this]
        exact hz
  · rw [← sn_form (h.right y hy) h3]
    exact hy
theorem ids_few (h : MkOk n l) {M : SnM} (hu : Uniq M) (hM : ∀ q ∈ M, snI q.1 ∈ l) : M.length ≤ 8 := by
  have h1 : (M.map (fun q => snI q.1)).Nodup := by
    have h2 := uniq_nodup hu
    refine List.pairwise_map.2 ((List.pairwise_map.1 h2).imp (fun {a b} h e => h ?_))
    exact congrArg It.snap e
  have h3 := nodup_sub (M.map (fun q => snI q.1)) (l.filter (fun i => i.kind == 3)) h1 (fun x hx => by
    obtain ⟨q, hq, rfl⟩ := List.mem_map.1 hx
    exact List.mem_filter.2 ⟨hM q hq, rfl⟩)
  rw [List.length_map] at h3
  have := h.few
  unfold snapsN at this
  omega
theorem OfI.snapOk (h : OfI n p t E f M) (hm : MkOk n l) (hp : ∀ x ∈ p, x ∈ l) (ht : t ≠ 0) (hR : Reach p t) : snapE M t = 0 := by
  have hg : aget M t = none := by
    cases hg : aget M t with
    | none => rfl
    | some q =>
      have := h.low _ (aget_mem hg)
      simp only at this
      omega
  have hlen := ids_few hm (M := aput M t (0, f)) (h.uniqM.put _ _) (fun q hq => by
    rcases (mem_put hg).1 hq with rfl | hq
    · obtain ⟨y, hy, h1, h2⟩ := hR
      rw [← h2]
      exact hm.there (hp y hy) h1 (by omega)
    · obtain ⟨y, hy, h1, h2⟩ := h.here q hq
      rw [← h2]
      have := h.ids q hq
      exact hm.there (hp y hy) h1 (by omega))
  have e : (aput M t (0, f)).length = M.length + 1 := by unfold aput; rw [adel_none hg]; rfl
  rw [e] at hlen
  have h0 := h.t0
  unfold snapE
  rw [if_neg (by omega), hg]
  simp only [Option.isSome_none, Bool.false_eq_true, if_false]
  rw [if_neg (by omega)]
theorem OfI.final (hn : n ≤ 512) (h : OfI n p 0 E f M) (hm : MkOk n l) (hp : p.Perm l) : l.Perm (stItems n E f M) ∧ Inv n E f M := by
  have hz : IdsR M := h.ids
  have hpl : ∀ {x : It}, x ∈ p ↔ x ∈ l := fun {x} => hp.mem_iff
  have hperm : l.Perm (stItems n E f M) := by
    refine perm_of (nd_of_st hm.nd) (st_nd hn f h.uniq h.uniqM hz) (fun x => ?_)
    rw [st_mem h.uniqM hz]
    constructor
    · intro hx
      have hr := hm.right x hx
      rcases right_kinds hr with h1 | h2 | h3
      · have hf := (ext_form hr h1).1
        refine .inl ⟨(x.key, x.pl), aget_mem ((h.ext x.key x.pl).2 ?_), hf⟩
        rw [← hf]
        exact hpl.2 hx
      · have hf := sl_form hr h2
        rcases h.done x (hpl.2 hx) (by omega) with e | ⟨q, hq, e⟩
        · have hin : sI 0 x.unit.toNat x.sl ∈ p := by
            have h4 := hf.1.1
            rw [e] at h4
            rw [← h4]
            exact hpl.2 hx
          obtain ⟨h5, h6, h7⟩ := (h.cur x.unit.toNat x.sl).2 hin
          refine .inr (.inl ⟨x.unit.toNat, h5, by rw [h7]; exact h6, ?_⟩)
          rw [h7]
          have h4 := hf.1.1
          rw [e] at h4
          exact h4
        · have hin : sI q.1 x.unit.toNat x.sl ∈ p := by
            rw [e, ← hf.1.1]
            exact hpl.2 hx
          obtain ⟨h5, h6, h7⟩ := (h.old q hq x.unit.toNat x.sl).2 hin
          refine .inr (.inr (.inl ⟨q, hq, x.unit.toNat, h5, by rw [h7]; exact h6, ?_⟩))
          rw [h7, e]
          exact hf.1.1
      · have hf := sn_form hr h3
        have hu := right_unit hr h3
        rcases h.done x (hpl.2 hx) (by omega) with e | ⟨q, hq, e⟩
        · omega
        · refine .inr (.inr (.inr ⟨q, hq, ?_⟩))
          rw [e]
          exact hf
    · rintro (⟨q, hq, rfl⟩ | ⟨u, hu, k, rfl⟩ | ⟨q, hq, u, hu, k, rfl⟩ | ⟨q, hq, rfl⟩)
      · exact hpl.1 ((h.ext q.1 q.2).1 (aget_of_mem h.uniq hq))
      · exact hpl.1 ((h.cur u (f u)).1 ⟨hu, k, rfl⟩)
      · exact hpl.1 ((h.old q hq u _).1 ⟨hu, k, rfl⟩)
      · obtain ⟨y, hy, h1, h2⟩ := h.here q hq
        rw [← h2]
        have := h.ids q hq
        exact hm.there (hpl.1 hy) h1 (by omega)
  refine ⟨hperm, h.uniq, h.uniqM, h.ids, ?_, fun K q hq => ?_, fun K q hq => ?_, fun g hg u hu hmk => ?_, h.mask⟩
  · rw [← snaps_perm hperm]
    exact hm.few
  · have hx := hpl.1 ((h.ext K q).1 hq)
    have ho := hm.ok _ hx
    have hf := ext_form (hm.right _ hx) rfl
    unfold okI at ho
    rw [if_pos (show (exIt (K, q)).kind = 1 from rfl), decide_eq_true_eq] at ho
    have h1 : cntI l K = q.ref := ho
    rw [Perm.cnt hperm, cnt_stItems] at h1
    have h2 := hf.2.1
    unfold placeB inB at h2
    simp only [if_true, Bool.and_eq_true, decide_eq_true_eq] at h2
    have h3 : 1 ≤ (exIt (K, q)).pl.ref := h2.2.1
    exact ⟨h1.symm, h3⟩
  · have hx := hpl.1 ((h.ext K q).1 hq)
    have h2 := (ext_form (hm.right _ hx) rfl).2.1
    have h3 : placeB q true = true := h2
    unfold placeB inB at h3
    unfold mayP
    simp only [if_true, Bool.and_eq_true, decide_eq_true_eq] at h3 ⊢
    omega
  · obtain ⟨id, hx⟩ : ∃ id, sI id u (g u) ∈ l := by
      rcases hg with rfl | ⟨q, hq, rfl⟩
      · exact ⟨0, hpl.1 ((h.cur u _).1 ⟨hu, hmk, rfl⟩)⟩
      · exact ⟨q.1, hpl.1 ((h.old q hq u _).1 ⟨hu, hmk, rfl⟩)⟩
    have hf := sl_form (hm.right _ hx) rfl
    have ho := hm.ok _ hx
    unfold okI at ho
    rw [if_neg (show ¬ (sI id u (g u)).kind = 1 from (show ¬ (2 : Int) = 1 by decide)), if_pos (show (sI id u (g u)).kind = 2 from rfl)] at ho
    have hse := seen_ext hm.b hm.nd (g u).key
    cases hg2 : extI l (g u).key with
    | none =>
      rw [show (sI id u (g u)).sl.key = (g u).key from rfl, hse, hg2] at ho
      cases ho
    | some y =>
      rw [show (sI id u (g u)).sl.key = (g u).key from rfl, hse, hg2] at ho
      simp only [Bool.and_eq_true, decide_eq_true_eq] at ho
      have hy := List.mem_of_find?_eq_some hg2
      have hyk := List.find?_some hg2
      unfold isExt at hyk
      simp only [Bool.and_eq_true, beq_iff_eq, decide_eq_true_eq] at hyk
      have hyf := (ext_form (hm.right y hy) hyk.1).1
      have hE : aget E (g u).key = some y.pl := by
        refine (h.ext _ _).2 (hpl.2 ?_)
        rw [← hyk.2, ← hyf]
        exact hy
      have h5 : 0 ≤ (g u).off ∧ (g u).off ≤ 15 ∧ 1 ≤ (g u).mask ∧ (g u).mask ≤ 255 := hf.2.2.2
      exact ⟨h5.2.2.1, h5.2.2.2, h5.1, by omega, y.pl, hE, ho.1.1⟩
end
end Go.Proofs.YtgjjdfhoakailaaGreat
namespace Go.Proofs.YtgjjdfhoakailaaGreat
open Go.RowKit Go.Maps Go.Sort Go.Shelf
set_option linter.unusedVariables false
set_option linter.unusedSimpArgs false

def EndPost (w : World) (si xi bx mi bs n : Nat) (t : Int) (E : ExM) (f : MpF) (M : SnM) (e : Ending) (w' : World) : Prop :=
  e = .returned (.tuple #[]) ∧ Tch [mi, bs] w w' ∧ (t = 0 → StIs w' si xi bx mi bs n E f M) ∧ (t ≠ 0 → ∃ v, StIs w' si xi bx mi bs n E (clrF n f 0 ((n : Int) * 8)) (aput M t (v, f)))
set_option maxRecDepth 100000 in
set_option maxHeartbeats 2000000 in
theorem ofEnd_any {w : World} {si xi bx mi bs n ab sb ub : Nat} {t : Int} {E : ExM} {f : MpF} {M : SnM} (hs : StIs w si xi bx mi bs n E f M) (h1 : Blk w ab 3 #[.int .i64 t]) (h2 : Blk w sb 25 #[.pointer (some ⟨si, 0, none⟩)]) (h3 : Blk w ub 3 #[.int .i64 (n : Int)]) (ht : t ≠ 0 → snapE M t = 0) :
    Calls Tryz.prog 79 #[.pointer (some ⟨ab, 0, none⟩), .pointer (some ⟨sb, 0, none⟩), .pointer (some ⟨ub, 0, none⟩)] w (EndPost w si xi bx mi bs n t E f M) := by
  have S := Lib.hid hs
  have B1 := Lib.hid h1
  have B2 := Lib.hid h2
  have B3 := Lib.hid h3
  have hn512 := hs.maps.high
  have c1 := h1.cell (i := 0) (v := .int .i64 t) rfl
  clear hs h1 h2 h3
  by_cases h0 : t = 0
  · have HT := Lib.hid h0
    have b0 : (t == 0) = true := beq_iff_eq.2 h0
    clear h0 ht
    go_enter Tryz.func79, Tryz.ntmps79
    go_wp2_with fail
    go_end0
    exact ⟨rfl, Tch.refl _ _, fun _ => S.out, fun h => absurd HT.out h⟩
  · have HT := Lib.hid h0
    have b0 : (t == 0) = false := beq_eq_false_iff_ne.2 h0
    have HSn := Lib.hid (ht h0)
    clear h0 ht
    have c2 := B2.out.cell (i := 0) (v := .pointer (some ⟨si, 0, none⟩)) rfl
    have s2 := S.out.c2
    go_enter Tryz.func79, Tryz.ntmps79
    go_upto_region 1 with fail
    refine wp_region_qs (fun _ w' => w'.cell? ⟨sb, 0, none⟩ = some (.pointer (some ⟨si, 0, none⟩)) ∧ w'.cell? ⟨si, 2, none⟩ = some (.pointer (some ⟨mi, 0, none⟩)) ∧ w'.cell? ⟨ab, 0, none⟩ = some (.int .i64 t)) [(0, some 1), (1, some 1), (2, some 1), (3, some 0), (4, some 0), (5, none)] (by kernel_rfl) (by kernel_rfl) (by kernel_rfl) (by kernel_rfl) (by kernel_rfl) (fun _ _ _ _ _ h => h) ⟨c2, s2, c1⟩ ?_
    simp only [List.map_cons, List.map_nil, List.getD_cons_succ, List.getD_cons_zero]
    (repeat (first | (refine qs_now (v := ?_) (by rfl) ?_ ?_; rotate_left 1; (· (intro w' hS; go_simp; (try (simp only [↓IntWalk.iteOmega]; go_simp)); (try simp (disch := omega) only [IntWalk.i64_in]); try with_reducible rfl)); simp only [Act.put, List.setIfInBounds_toArray, List.set_cons_zero, List.set_cons_succ]) | (refine qs_run (v := ?_) (by rfl) ?_ ?_; rotate_left 1; (· (intro j w' hS; go_simp; (try (simp only [↓IntWalk.iteOmega]; go_simp)); (try simp (disch := omega) only [IntWalk.i64_in]); try with_reducible rfl)); simp only [Act.put, List.setIfInBounds_toArray, List.set_cons_zero, List.set_cons_succ]) | (refine qs_mid (v := ?_) (by rfl) ?_ ?_; rotate_left 1; (· (intro j w' hj1 hj2 hS; go_simp; (try (simp only [↓IntWalk.iteOmega]; go_simp)); (try simp (disch := omega) only [IntWalk.i64_in]); try with_reducible rfl)); simp only [Act.put, List.setIfInBounds_toArray, List.set_cons_zero, List.set_cons_succ]) | (refine qs_skip (by rfl) ?_; simp only [Act.put, List.setIfInBounds_toArray, List.set_cons_zero, List.set_cons_succ])))
    refine qs_act ?_
    go_wp2_with (go_at_call 80; refine (snap_any S.out.drew.maps t).mono ?_; rintro e w2 ⟨rfl, hT, hM⟩; have T2 := Lib.hid hT; have M2 := Lib.hid hM; clear hT hM)
    obtain ⟨g, hm, hg⟩ : ∃ g, MapsIs w2 mi bs n f (aput M t (g, f)) ∧ w.drew.heap.size ≤ g := by
      rcases M2.out with ⟨h, _⟩ | ⟨_, g, h1, h2⟩
      · exact absurd HSn.out h
      · exact ⟨g, h1, h2⟩
    have S2 := Lib.hid (S.out.drew.newMaps hm T2.out (fun k hk => by simp at hk; exact .inr hk))
    have nb : ∀ {k : Nat} {ty : TypeId} {cs : Array Value}, Blk w k ty cs → k ∉ [bs] := fun hb hk => by
      simp at hk
      exact blk_ne_map S.out.maps.map hb hk
    have B1' := Lib.hid (B1.out.drew.tch T2.out (nb B1.out))
    have B2' := Lib.hid (B2.out.drew.tch T2.out (nb B2.out))
    have B3' := Lib.hid (B3.out.drew.tch T2.out (nb B3.out))
    clear c1 c2 s2 nb hm hg
    have c1 := B1'.out.cell (i := 0) (v := .int .i64 t) rfl
    have c2 := B2'.out.cell (i := 0) (v := .pointer (some ⟨si, 0, none⟩)) rfl
    have s2 := S2.out.c2
    have c3 := B3'.out.cell (i := 0) (v := .int .i64 (n : Int)) rfl
    refine ⟨⟨c2, s2, c1⟩, ?_⟩
    refine qs_nil ?_
    go_upto_region 2 with fail
    refine wp_region_qs (fun _ w' => w'.cell? ⟨sb, 0, none⟩ = some (.pointer (some ⟨si, 0, none⟩)) ∧ w'.cell? ⟨si, 2, none⟩ = some (.pointer (some ⟨mi, 0, none⟩)) ∧ w'.cell? ⟨ub, 0, none⟩ = some (.int .i64 (n : Int))) [(0, some 1), (1, some 1), (2, some 1), (3, some 0), (4, some 1), (5, some 0), (6, none)] (by kernel_rfl) (by kernel_rfl) (by kernel_rfl) (by kernel_rfl) (by kernel_rfl) (fun _ _ _ _ _ h => h) ⟨c2, s2, c3⟩ ?_
    simp only [List.map_cons, List.map_nil, List.getD_cons_succ, List.getD_cons_zero]
    (repeat (first | (refine qs_now (v := ?_) (by rfl) ?_ ?_; rotate_left 1; (· (intro w' hS; go_simp; (try (simp only [↓IntWalk.iteOmega]; go_simp)); (try simp (disch := omega) only [IntWalk.i64_in]); try with_reducible rfl)); simp only [Act.put, List.setIfInBounds_toArray, List.set_cons_zero, List.set_cons_succ]) | (refine qs_run (v := ?_) (by rfl) ?_ ?_; rotate_left 1; (· (intro j w' hS; go_simp; (try (simp only [↓IntWalk.iteOmega]; go_simp)); (try simp (disch := omega) only [IntWalk.i64_in]); try with_reducible rfl)); simp only [Act.put, List.setIfInBounds_toArray, List.set_cons_zero, List.set_cons_succ]) | (refine qs_mid (v := ?_) (by rfl) ?_ ?_; rotate_left 1; (· (intro j w' hj1 hj2 hS; go_simp; (try (simp only [↓IntWalk.iteOmega]; go_simp)); (try simp (disch := omega) only [IntWalk.i64_in]); try with_reducible rfl)); simp only [Act.put, List.setIfInBounds_toArray, List.set_cons_zero, List.set_cons_succ]) | (refine qs_skip (by rfl) ?_; simp only [Act.put, List.setIfInBounds_toArray, List.set_cons_zero, List.set_cons_succ])))
    refine qs_act ?_
    go_wp2_with (go_at_call 81; refine (clear_any S2.out.drew.maps 0 ((n : Int) * 8)).mono ?_; rintro e w3 ⟨rfl, hM, hT⟩; have T3 := Lib.hid hT; have M3 := Lib.hid hM; clear hT hM)
    have S3 := Lib.hid (S2.out.drew.newMaps M3.out T3.out (fun k hk => by simp at hk; exact .inl hk))
    have nb : ∀ {k : Nat} {ty : TypeId} {cs : Array Value}, ty ≠ 123 → Blk w2 k ty cs → k ∉ [mi] := fun ht hb hk => by
      simp at hk
      exact blk_ne_ty hb S2.out.maps.blk ht hk
    refine ⟨⟨(B2'.out.drew.tch T3.out (nb (by decide) B2'.out)).cell (i := 0) (v := .pointer (some ⟨si, 0, none⟩)) rfl, S3.out.c2, (B3'.out.drew.tch T3.out (nb (by decide) B3'.out)).cell (i := 0) (v := .int .i64 (n : Int)) rfl⟩, ?_⟩
    refine qs_nil ?_
    go_wp2_with fail
    go_end0
    refine ⟨rfl, ?_, fun h => absurd h HT.out, fun _ => ⟨g, S3.out⟩⟩
    exact ((Tch.below (Below.refl _ w).drew).trans (T2.out.mono (fun k hk => by simp at hk ⊢; exact .inr hk))).trans ((Tch.below (Below.refl _ w2).drew).trans (T3.out.mono (fun k hk => by simp at hk ⊢; exact .inl hk)))
end Go.Proofs.YtgjjdfhoakailaaGreat
