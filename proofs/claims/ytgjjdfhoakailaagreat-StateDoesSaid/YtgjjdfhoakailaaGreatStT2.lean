/-
  state: makes, in plain Lean.
-/
import Derived.Test.YtgjjdfhoakailaaGreatStT1
namespace Go.Proofs.YtgjjdfhoakailaaGreat
open Go.RowKit Go.Maps Go.Sort Go.Shelf
set_option linter.unusedVariables false
set_option linter.unusedSimpArgs false

def zIt : It := ⟨0, zKey, zPl, 0, 0, zSl⟩
theorem thz_ok : ThOk ⟨0, zKey, 0, 0⟩ := ⟨by simp, i64B_zero, i64B_zero⟩
def mkTh (t : Th) : ThB := if h : ThOk t then ⟨t, h⟩ else ⟨⟨0, zKey, 0, 0⟩, thz_ok⟩
theorem mkTh_val {t : Th} (h : ThOk t) : (mkTh t).1 = t := by unfold mkTh; rw [dif_pos h]
theorem vTh_mk {t : Th} (h : ThOk t) : vTh (mkTh t) = .agg (thC t).toArray := by unfold vTh; rw [mkTh_val h]
theorem mkTh_inj {s t : Th} (hs : ThOk s) (ht : ThOk t) (h : mkTh s = mkTh t) : s = t := by rw [← mkTh_val hs, ← mkTh_val ht, h]
def stT (i : It) : ThB := mkTh (standsI i)
def thE (K : Key) : ThB := mkTh ⟨1, K, 0, 0⟩
def thS (s : Int) : ThB := mkTh ⟨3, zKey, s, 0⟩
abbrev SnT := List (ThB × It)
def seenM (l : List It) : SnT := l.foldl (fun S i => aput S (stT i) i) []
theorem seenM_snoc (l : List It) (i : It) : seenM (l ++ [i]) = aput (seenM l) (stT i) i := by simp [seenM, List.foldl_append]
theorem seenM_some (l : List It) (t : ThB) : (aget (seenM l) t).isSome = decide (t ∈ l.map stT) := by
  induction l using snoc_ind with
  | nil => simp [seenM, aget]
  | append_singleton l x ih =>
    rw [seenM_snoc, aget_put]
    by_cases h : stT x = t
    · simp [h]
    · have h' : ¬ t = stT x := fun e => h e.symm
      rw [if_neg h, ih]
      simp [h']
theorem seenM_len (l : List It) : (seenM l).length ≤ l.length := by
  induction l using snoc_ind with
  | nil => simp [seenM]
  | append_singleton l x ih =>
    have := aput_len (seenM l) (stT x) x
    rw [seenM_snoc, List.length_append, List.length_singleton]
    omega
def cMof (a : List Cn) : SuM := a.foldl (fun S c => aput S c.key c.ref) []
theorem cMof_snoc (a : List Cn) (c : Cn) : cMof (a ++ [c]) = aput (cMof a) c.key c.ref := by simp [cMof, List.foldl_append]
theorem cMof_len (a : List Cn) : (cMof a).length ≤ a.length := by
  induction a using snoc_ind with
  | nil => simp [cMof]
  | append_singleton a c ih =>
    have := aput_len (cMof a) c.key c.ref
    rw [cMof_snoc, List.length_append, List.length_singleton]
    omega
theorem cMof_val {a : List Cn} (h : KeysNd a) (K : Key) : valF (cMof a) K = sumCn a K := by
  induction a using snoc_ind with
  | nil => rfl
  | append_singleton a c ih =>
    have hp := List.pairwise_append.1 h
    have ih := ih hp.1
    rw [cMof_snoc]
    have e : sumCn (a ++ [c]) K = sumCn a K + sumCn [c] K := by
      unfold sumCn
      rw [List.filter_append, List.map_append, List.sum_append]
    rw [e]
    unfold valF at ih ⊢
    rw [aget_put]
    by_cases hk : c.key = K
    · have : sumCn a K = 0 := sumCn_not (fun x hx => by have := hp.2.2 x hx c (by simp); rw [hk] at this; exact this)
      rw [if_pos hk, this]
      simp [sumCn, hk]
    · rw [if_neg hk, ih]
      simp [sumCn, hk]
theorem cM_cnt (l : List It) (K : Key) : valF (cMof (countC l)) K = cntI l K := by
  have hn : KeysNd (countC l) := by unfold countC; exact rowC_nd (sumF_uniq _)
  rw [cMof_val hn]
  unfold countC
  rw [row_sum (sumF_uniq _), cnt_val]
/-- Is an item in order among the others? -/
def okI (units : Int) (l : List It) (i : It) : Bool :=
  if i.kind = 1 then decide (cntI l i.key = i.pl.ref)
  else if i.kind = 2 then
    match aget (seenM l) (thE i.sl.key) with
    | none => false
    | some x => decide (i.sl.off < x.pl.uni) && decide (i.unit < units) && (decide (i.snap ≤ 0) || (aget (seenM l) (thS i.snap)).isSome)
  else true
def snapsN (l : List It) : Nat := (l.filter (fun i => i.kind == 3)).length
theorem snapsN_snoc (l : List It) (i : It) : snapsN (l ++ [i]) = snapsN l + (if i.kind == 3 then 1 else 0) := by
  unfold snapsN
  rw [List.filter_append, List.length_append]
  by_cases h : (i.kind == 3) = true <;> simp [h]
theorem snapsN_le (l : List It) : snapsN l ≤ l.length := List.length_filter_le _ _
def makesB (units : Int) (l : List It) : Bool := l.all rightI && decide ((l.map stT).Nodup) && l.all (okI units l) && decide (snapsN l ≤ 8)
theorem nd_next {l : List It} {j : Nat} (hj : j < l.length) (h : ((l.take j).map stT).Nodup) (hx : (aget (seenM (l.take j)) (stT (l[j]'hj))).isSome = false) : ((l.take (j + 1)).map stT).Nodup := by
  rw [seenM_some] at hx
  have hx := of_decide_eq_false hx
  rw [List.take_succ_eq_append_getElem hj, List.map_append, List.nodup_append]
  exact ⟨h, by simp, fun a ha b hb e => hx (by simp at hb; rw [← hb, ← e]; exact ha)⟩
theorem nd_bad {l : List It} {j : Nat} (hj : j < l.length) (hx : (aget (seenM (l.take j)) (stT (l[j]'hj))).isSome = true) : ¬ (l.map stT).Nodup := by
  rw [seenM_some] at hx
  have hx := of_decide_eq_true hx
  intro h
  have h2 : ((l.take (j + 1)).map stT).Nodup := h.sublist ((List.take_sublist (j + 1) l).map _)
  rw [List.take_succ_eq_append_getElem hj, List.map_append, List.nodup_append] at h2
  exact h2.2.2 _ hx _ (by simp) rfl
theorem ops_badI {l : List It} {p : It → Bool} {i : Nat} (hi : i < l.length) (hx : p (l[i]'hi) = false) : l.all p = false := by
  rw [← Bool.not_eq_true, List.all_eq_true]
  intro h
  rw [h _ (List.getElem_mem hi)] at hx
  cases hx
theorem makes_bad1 {units : Int} {l : List It} {j : Nat} (hj : j < l.length) (h : rightI (l[j]'hj) = false) : makesB units l = false := by
  unfold makesB
  rw [ops_badI hj h]
  rfl
theorem makes_bad2 {units : Int} {l : List It} (h : ¬ (l.map stT).Nodup) : makesB units l = false := by
  unfold makesB
  rw [decide_eq_false h]
  simp
theorem makes_bad3 {units : Int} {l : List It} {j : Nat} (hj : j < l.length) (h : okI units l (l[j]'hj) = false) : makesB units l = false := by
  unfold makesB
  rw [ops_badI hj h]
  simp
theorem makes_end {units : Int} {l : List It} (h1 : l.all rightI = true) (h2 : (l.map stT).Nodup) (h3 : l.all (okI units l) = true) : makesB units l = decide (snapsN l ≤ 8) := by
  unfold makesB
  rw [h1, decide_eq_true h2, h3]
  rfl
end Go.Proofs.YtgjjdfhoakailaaGreat
