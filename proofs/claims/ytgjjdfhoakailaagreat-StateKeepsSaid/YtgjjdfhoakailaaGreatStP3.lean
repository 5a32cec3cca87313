/-
  state, plain: whatever is done, what holds of a state holds.
-/
import Derived.Test.YtgjjdfhoakailaaGreatStP2
namespace Go.Proofs.YtgjjdfhoakailaaGreat
open Go.RowKit Go.Maps Go.Sort Go.Shelf
set_option linter.unusedVariables false
set_option linter.unusedSimpArgs false

/-! ### A write -/
theorem frB_may {p : Fr} (h : frB p = true) : mayP p.pl = true ∧ p.pl.ref = 0 := by
  unfold frB inB at h
  unfold mayP
  simp only [Bool.and_eq_true, decide_eq_true_eq] at h ⊢
  omega
theorem find_snoc {α : Type} {l : List α} {p : α → Bool} (x : α) : (l ++ [x]).find? p = (l.find? p).or (if p x then some x else none) := by
  rw [List.find?_append]
  congr 1
  rw [List.find?_cons]
  cases p x <;> rfl
theorem addAll_get {E : ExM} {l : List Fr} (hf : l.all frB = true) (hnd : (l.map (·.key)).Nodup) (ht : thereB E l = false) (K : Key) :
    aget (addAll E l) K = (aget E K).or ((l.find? (fun p => decide (p.key = K))).map (·.pl)) := by
  induction l using snoc_ind generalizing K with
  | nil => simp [addAll]
  | append_singleton l x ih =>
    rw [List.all_append, Bool.and_eq_true] at hf
    rw [List.map_append, List.nodup_append] at hnd
    unfold thereB at ht
    rw [List.any_append, Bool.or_eq_false_iff] at ht
    have ih := fun L => ih hf.1 hnd.1 ht.1 L
    have hx : frB x = true := by simpa using hf.2
    have hxE : aget E x.key = none := by
      have := ht.2
      simp at this
      exact this
    have hxl : l.find? (fun p => decide (p.key = x.key)) = none := List.find?_eq_none.2 (fun p hp => by
      have := hnd.2.2 p.key (List.mem_map_of_mem hp) x.key (by simp)
      simpa using this)
    have hnone : aget (addAll E l) x.key = none := by rw [ih, hxE, hxl]; rfl
    have he : addE (addAll E l) x.key x.pl = 0 := by
      unfold addE
      rw [(frB_may hx).1, hnone]
      rfl
    rw [addAll_snoc]
    unfold addX
    rw [if_pos he, aget_put, find_snoc, ih]
    by_cases h : x.key = K
    · subst h
      rw [if_pos rfl, hxE, hxl]
      simp
    · rw [if_neg h]
      simp [h]
theorem addAll_uniq {E : ExM} (hu : Uniq E) (l : List Fr) : Uniq (addAll E l) := by
  induction l using snoc_ind with
  | nil => exact hu
  | append_singleton l x ih =>
    rw [addAll_snoc]
    unfold addX
    split
    · exact ih.put _ _
    · exact ih
theorem frM_get {l : List Fr} (hnd : (l.map (·.key)).Nodup) (K : Key) : aget (frM l) K = (l.find? (fun p => decide (p.key = K))).map (·.pl.uni) := by
  induction l using snoc_ind with
  | nil => rfl
  | append_singleton l x ih =>
    rw [List.map_append, List.nodup_append] at hnd
    rw [frM_snoc, aget_put, find_snoc, ih hnd.1]
    by_cases h : x.key = K
    · subst h
      have hxl : l.find? (fun p => decide (p.key = x.key)) = none := List.find?_eq_none.2 (fun p hp => by
        have := hnd.2.2 p.key (List.mem_map_of_mem hp) x.key (by simp)
        simpa using this)
      rw [if_pos rfl, hxl]
      simp
    · rw [if_neg h]
      simp [h]
theorem putsB_facts : ∀ (l : List Pu) (least : Int), putsB l least = true → (∀ p ∈ l, least ≤ p.unit ∧ p.unit ≤ 511 ∧ 0 ≤ p.sl.off ∧ p.sl.off ≤ 15 ∧ 1 ≤ p.sl.mask ∧ p.sl.mask ≤ 255) ∧ l.Pairwise (fun p q => p.unit < q.unit)
  | [], _, _ => ⟨by simp, List.Pairwise.nil⟩
  | p :: r, least, h => by
    unfold putsB puB inB at h
    simp only [Bool.and_eq_true, decide_eq_true_eq] at h
    have ih := putsB_facts r (p.unit + 1) h.2
    refine ⟨fun q hq => ?_, List.pairwise_cons.2 ⟨fun q hq => ?_, ih.2⟩⟩
    · rcases List.mem_cons.1 hq with rfl | hq
      · omega
      · have := ih.1 q hq
        omega
    · have := ih.1 q hq
      omega
theorem setAll_get {n : Nat} {f : MpF} {l : List Pu} (hp : l.Pairwise (fun p q => p.unit < q.unit)) (hok : ∀ p ∈ l, setE n p.unit p.sl = 0) (hz : ∀ p ∈ l, 0 ≤ p.unit) (u : Nat) :
    setAll n f l u = ((l.find? (fun p => decide (p.unit = (u : Int)))).map (·.sl)).getD (f u) := by
  induction l using snoc_ind with
  | nil => rfl
  | append_singleton l x ih =>
    have hpp := List.pairwise_append.1 hp
    have ih := ih hpp.1 (fun p h => hok p (List.mem_append_left _ h)) (fun p h => hz p (List.mem_append_left _ h))
    rw [setAll_snoc, find_snoc]
    unfold setF
    have hx := hz x (by simp)
    rw [if_pos (hok x (by simp))]
    unfold upd
    by_cases h : x.unit = (u : Int)
    · have hxl : l.find? (fun p => decide (p.unit = (u : Int))) = none := List.find?_eq_none.2 (fun p hp => by
        have := hpp.2.2 p hp x (by simp)
        rw [h] at this
        simp
        omega)
      rw [if_pos (by omega), hxl]
      simp [h]
    · rw [if_neg (by omega), ih]
      simp [h]
structure WrOk (n : Nat) (E : ExM) (o : OpV) : Prop where
  fr : o.news.all frB = true
  nd : (o.news.map (·.key)).Nodup
  puts : ∀ p ∈ o.puts, 0 ≤ p.unit ∧ p.unit ≤ 511 ∧ 0 ≤ p.sl.off ∧ p.sl.off ≤ 15 ∧ 1 ≤ p.sl.mask ∧ p.sl.mask ≤ 255
  sorted : o.puts.Pairwise (fun p q => p.unit < q.unit)
  there : thereB E o.news = false
  ok : ∀ p ∈ o.puts, p.unit < n ∧ p.sl.off < uniOf E (frM o.news) p.sl.key
  wanted : ∀ p ∈ o.news, ∃ q ∈ o.puts, q.sl.key = p.key
theorem wr_ok {n : Nat} {E : ExM} {o : OpV} (hr : writeB o = true) (h : wrE n E o = 0) : WrOk n E o := by
  unfold writeB newsB at hr
  simp only [Bool.and_eq_true, decide_eq_true_eq] at hr
  obtain ⟨⟨⟨⟨h1, h2⟩, h3⟩, _⟩, _⟩ := hr
  have h4 := putsB_facts _ _ h3
  unfold wrE at h
  split at h
  · cases h
  · rename_i ht
    split at h
    · cases h
    · rename_i hp
      split at h
      · cases h
      · rename_i hw
        have hp' : o.puts.all (putOk n E (frM o.news)) = true := by simpa using hp
        have hw' : o.news.all (wantedB o.puts) = true := by simpa using hw
        refine ⟨h1, h2, h4.1, h4.2, by simpa using ht, fun p hpm => ?_, fun p hpm => ?_⟩
        · have := List.all_eq_true.1 hp' p hpm
          unfold putOk at this
          simpa using this
        · have := List.all_eq_true.1 hw' p hpm
          unfold wantedB at this
          obtain ⟨q, hq, e⟩ := List.mem_map.1 (of_decide_eq_true this)
          exact ⟨q, hq, e⟩
theorem WrOk.set {n : Nat} {E : ExM} {o : OpV} (h : WrOk n E o) (f : MpF) (u : Nat) : setAll n f o.puts u = ((o.puts.find? (fun p => decide (p.unit = (u : Int)))).map (·.sl)).getD (f u) :=
  setAll_get h.sorted (fun p hp => by
    have h1 := h.puts p hp
    have h2 := (h.ok p hp).1
    unfold setE
    rw [if_pos (by omega)]) (fun p hp => (h.puts p hp).1) u
theorem WrOk.set_at {n : Nat} {E : ExM} {o : OpV} (h : WrOk n E o) (f : MpF) {p : Pu} (hp : p ∈ o.puts) : setAll n f o.puts p.unit.toNat = p.sl := by
  rw [h.set]
  have h1 := (h.puts p hp).1
  have : o.puts.find? (fun q => decide (q.unit = ((p.unit.toNat : Nat) : Int))) = some p := by
    have hs := h.sorted
    clear h
    revert hp hs
    generalize o.puts = l
    intro hp hs
    induction l with
    | nil => cases hp
    | cons x l ih =>
      obtain ⟨h2, h3⟩ := List.pairwise_cons.1 hs
      rw [List.find?_cons]
      rcases List.mem_cons.1 hp with rfl | hp
      · rw [decide_eq_true (by omega)]
      · have := h2 p hp
        rw [decide_eq_false (by omega)]
        exact ih hp h3
  rw [this]
  rfl
end Go.Proofs.YtgjjdfhoakailaaGreat
