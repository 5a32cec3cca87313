/-
  what this claim needs of: StI9 (written by cut.py).
-/
import Derived.Test.YtgjjdfhoakailaaGreatBStI3
namespace Go.Proofs.YtgjjdfhoakailaaGreat
open Go.RowKit Go.Maps Go.Sort Go.Shelf
set_option linter.unusedVariables false
set_option linter.unusedSimpArgs false

structure OfS (n : Nat) (l L : List It) : Prop where
  ok : MkOk n l
  perm : L.Perm l
  srt : L.Pairwise fun a b => b.snap ≤ a.snap
theorem MkOk.snap {n : Nat} {l : List It} (h : MkOk n l) {x : It} (hx : x ∈ l) : 0 ≤ x.snap ∧ x.snap ≤ 1073741824 := by
  have hr := h.right x hx
  rcases right_kinds hr with h1 | h2 | h3
  · have := (ext_form hr h1).2.2; omega
  · exact (sl_form hr h2).2.1
  · have := right_unit hr h3; omega
section
variable {n : Nat} {l L : List It} {t : Int} {E : ExM} {f : MpF} {M : SnM} {i : Nat}
theorem OfS.mem (h : OfS n l L) {y : It} (hy : y ∈ L) : y ∈ l := h.perm.mem_iff.1 hy
theorem OfS.mt (h : OfS n l L) {y : It} (hy : y ∈ L.take i) : y ∈ l := h.mem (List.mem_of_mem_take hy)
theorem OfS.high (h : OfS n l L) (hi : i < L.length) {y : It} (hy : y ∈ L.take i) : L[i].snap ≤ y.snap := by
  have h1 := h.srt
  rw [← List.take_append_drop i L, List.drop_eq_getElem_cons hi] at h1
  exact (List.pairwise_append.1 h1).2.2 y hy L[i] (List.mem_cons_self ..)
theorem OfS.fresh (h : OfS n l L) (hi : i < L.length) {y : It} (hy : y ∈ L.take i) : alikeB y L[i] = false := by
  have h1 := (h.perm.map stT).nodup_iff.2 h.ok.nd
  have h3 := List.pairwise_map.1 h1
  rw [← List.take_append_drop i L, List.drop_eq_getElem_cons hi] at h3
  have h4 := (List.pairwise_append.1 h3).2.2 y hy L[i] (List.mem_cons_self ..)
  have hx : L[i] ∈ l := h.mem (List.getElem_mem hi)
  cases ha : alikeB y L[i] with
  | false => rfl
  | true => exact absurd ((alike_st (h.ok.b y (h.mt hy)) (h.ok.b _ hx) (h.ok.right y (h.mt hy)) (h.ok.right _ hx)).1 ha) h4
theorem OfS.newE (h : OfS n l L) (ho : OfI n (L.take i) t E f M) (hi : i < L.length) (hk : L[i].kind = 1) : aget E L[i].key = none := by
  cases hg : aget E L[i].key with
  | none => rfl
  | some q =>
    have h1 := h.fresh hi ((ho.ext _ q).1 hg)
    unfold alikeB at h1
    simp [exIt, hk] at h1
theorem OfS.newS (h : OfS n l L) (hi : i < L.length) (hk : L[i].kind = 2) (s : Sl) : sI L[i].snap L[i].unit.toNat s ∉ L.take i := fun hy => by
  have h1 := h.fresh hi hy
  have h2 := (sl_form (h.ok.right _ (h.mem (List.getElem_mem hi))) hk).2.2.1
  unfold alikeB at h1
  simp [sI, hk] at h1
  omega
theorem OfS.unit (h : OfS n l L) (hi : i < L.length) (hk : L[i].kind = 2) : L[i].unit < n := by
  have ho := h.ok.ok _ (h.mem (List.getElem_mem hi))
  unfold okI at ho
  rw [if_neg (by omega), if_pos hk] at ho
  cases hg : aget (seenM l) (thE L[i].sl.key) with
  | none => rw [hg] at ho; cases ho
  | some z =>
    rw [hg] at ho
    simp only [Bool.and_eq_true, decide_eq_true_eq] at ho
    exact ho.1.2
theorem take_one (hi : i < L.length) : L.take (i + 1) = L.take i ++ [L[i]] := List.take_succ_eq_append_getElem hi
theorem OfS.ext (h : OfS n l L) (ho : OfI n (L.take i) t E f M) (hF : Fresh0 (L.take i) t f M ∨ Reach (L.take i) t) (hi : i < L.length) (hk : L[i].kind = 1) :
    OfI n (L.take (i + 1)) t (addX E L[i].key L[i].pl) f M ∧ (Fresh0 (L.take (i + 1)) t f M ∨ Reach (L.take (i + 1)) t) := by
  rw [take_one hi]
  refine ⟨ho.extE (h.ok.right _ (h.mem (List.getElem_mem hi))) hk (h.newE ho hi hk), ?_⟩
  rcases hF with ⟨h1, h2, h3, h4⟩ | ⟨y, hy, h1⟩
  · refine .inl ⟨h1, h2, h3, fun y hy => ?_⟩
    rcases List.mem_append.1 hy with hy | hy
    · exact h4 y hy
    · rw [List.mem_singleton] at hy
      rw [hy]
      exact hk
  · exact .inr ⟨y, List.mem_append_left _ hy, h1⟩
theorem OfS.turn (h : OfS n l L) (hn : n ≤ 512) (ho : OfI n (L.take i) t E f M) (hF : Fresh0 (L.take i) t f M ∨ Reach (L.take i) t) (hi : i < L.length) (ht : L[i].snap ≠ t) :
    (t = 0 → OfI n (L.take i) L[i].snap E f M) ∧ (t ≠ 0 → snapE M t = 0 ∧ ∀ v, OfI n (L.take i) L[i].snap E (clrF n f 0 ((n : Int) * 8)) (aput M t (v, f))) := by
  have hs := h.ok.snap (h.mem (List.getElem_mem hi))
  have hlow : Reach (L.take i) t → L[i].snap ≤ t := fun ⟨y, hy, _, h2⟩ => by rw [← h2]; exact h.high hi hy
  refine ⟨fun h0 => ?_, fun h0 => ?_⟩
  · rcases hF with hF | hR
    · exact ho.begin_ hF hs
    · have := hlow hR; omega
  · rcases hF with hF | hR
    · exact absurd hF.1 h0
    · have := hlow hR
      exact ⟨ho.snapOk h.ok (fun x hx => h.mt hx) h0 hR, fun v => (ho.end_ hn h0 hR (by omega) v).2⟩
theorem OfS.here (h : OfS n l L) (hi : i < L.length) (ho : OfI n (L.take i) L[i].snap E f M) (hk : L[i].kind ≠ 1) :
    Reach (L.take (i + 1)) L[i].snap ∧ (L[i].kind = 2 → OfI n (L.take (i + 1)) L[i].snap E (setF n f L[i].unit L[i].sl) M) ∧ (L[i].kind = 3 → OfI n (L.take (i + 1)) L[i].snap E f M) := by
  have hr := h.ok.right _ (h.mem (List.getElem_mem hi))
  rw [take_one hi]
  exact ⟨⟨L[i], List.mem_append_right _ (List.mem_singleton.2 rfl), hk, rfl⟩, fun h2 => ho.setS hr h2 rfl (h.unit hi h2) (h.newS hi h2), fun h3 => ho.addN hr h3 rfl⟩
theorem OfS.last (h : OfS n l L) (hn : n ≤ 512) (ho : OfI n L t E f M) (hF : Fresh0 L t f M ∨ Reach L t) :
    (t = 0 → l.Perm (stItems n E f M) ∧ Inv n E f M) ∧ (t ≠ 0 → snapE M t = 0 ∧ ∀ v, l.Perm (stItems n E (clrF n f 0 ((n : Int) * 8)) (aput M t (v, f))) ∧ Inv n E (clrF n f 0 ((n : Int) * 8)) (aput M t (v, f))) := by
  refine ⟨fun h0 => ?_, fun h0 => ?_⟩
  · subst h0
    exact ho.final hn h.ok h.perm
  · rcases hF with hF | hR
    · exact absurd hF.1 h0
    · have h1 := ho.t0
      exact ⟨ho.snapOk h.ok (fun x hx => h.mem hx) h0 hR, fun v => ((ho.end_ hn h0 hR (t' := 0) (by omega) v).2).final hn h.ok h.perm⟩
theorem addX_len (E : ExM) (K : Key) (p : Pl) : (addX E K p).length ≤ E.length + 1 := by
  unfold addX
  split
  · exact aput_len E K p
  · omega
end
end Go.Proofs.YtgjjdfhoakailaaGreat
