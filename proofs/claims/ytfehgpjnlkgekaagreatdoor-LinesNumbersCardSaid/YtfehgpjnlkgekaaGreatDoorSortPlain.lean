/-
  Stable sorting by a first number, in plain words: the relation 'the same, number by number', and the uniqueness of what is sorted.
-/
import Derived.Test.YtfehgpjnlkgekaaGreatDoorMem
namespace Go.Proofs.YtfehgpjnlkgekaaGreatDoor
set_option linter.unusedVariables false

abbrev PV := Int × Value
section
variable {β : Type}
def Srt (l : List (Int × β)) : Prop := l.Pairwise fun p q => p.1 ≤ q.1
/-- A permutation that keeps, for each number, its elements in their order. -/
def StEq (l m : List (Int × β)) : Prop := l.Perm m ∧ ∀ x : Int, l.filter (fun p => p.1 == x) = m.filter (fun p => p.1 == x)

theorem StEq.refl (l : List (Int × β)) : StEq l l := ⟨.refl _, fun _ => rfl⟩
theorem StEq.symm {l m : List (Int × β)} (h : StEq l m) : StEq m l := ⟨h.1.symm, fun x => (h.2 x).symm⟩
theorem StEq.trans {l m n : List (Int × β)} (h : StEq l m) (k : StEq m n) : StEq l n := ⟨h.1.trans k.1, fun x => (h.2 x).trans (k.2 x)⟩
theorem StEq.append {l m l' m' : List (Int × β)} (h : StEq l m) (k : StEq l' m') : StEq (l ++ l') (m ++ m') := ⟨h.1.append k.1, fun x => by
  rw [List.filter_append, List.filter_append, h.2 x, k.2 x]⟩
theorem StEq.length {l m : List (Int × β)} (h : StEq l m) : l.length = m.length := h.1.length_eq
theorem StEq.mem {l m : List (Int × β)} (h : StEq l m) (p : Int × β) : p ∈ l ↔ p ∈ m := h.1.mem_iff
theorem StEq.two (p q : Int × β) (h : p.1 ≠ q.1) : StEq [p, q] [q, p] := by
  refine ⟨.swap _ _ _, fun x => ?_⟩
  by_cases hp : p.1 = x <;> by_cases hq : q.1 = x
  · exact absurd (hp.trans hq.symm) h
  · simp [hp, hq]
  · simp [hp, hq]
  · simp [hp, hq]
theorem StEq.swap (l1 l2 : List (Int × β)) (p q : Int × β) (h : p.1 ≠ q.1) : StEq (l1 ++ [p, q] ++ l2) (l1 ++ [q, p] ++ l2) :=
  ((StEq.refl l1).append (StEq.two p q h)).append (StEq.refl l2)
/-- One that is below all of a row goes ahead of it. -/
theorem StEq.ahead (e : Int × β) : ∀ (l : List (Int × β)), (∀ q ∈ l, e.1 < q.1) → StEq (l ++ [e]) (e :: l)
  | [], _ => StEq.refl _
  | q :: l, h => by
    have h1 := StEq.ahead e l (fun p hp => h p (List.mem_cons_of_mem _ hp))
    have h2 : StEq (q :: (l ++ [e])) (q :: e :: l) := StEq.append (l := [q]) (m := [q]) (StEq.refl _) h1
    exact h2.trans (StEq.swap [] l q e (by have := h q (by simp); omega))
/-- A row whose elements are all below those of another goes ahead of it. -/
theorem StEq.rot (l : List (Int × β)) : ∀ (m : List (Int × β)), (∀ p ∈ l, ∀ q ∈ m, q.1 < p.1) → StEq (l ++ m) (m ++ l)
  | [], _ => by simpa using StEq.refl l
  | e :: m, h => by
    have h1 := (StEq.ahead e l (fun p hp => h p hp e (by simp))).append (StEq.refl m)
    have h2 := StEq.append (StEq.refl [e]) (StEq.rot l m (fun p hp q hq => h p hp q (List.mem_cons_of_mem _ hq)))
    have e1 : l ++ [e] ++ m = l ++ e :: m := by simp
    rw [e1] at h1
    exact h1.trans (by simpa using h2)
theorem srt_unique : ∀ {l m : List (Int × β)}, Srt l → Srt m → StEq l m → l = m
  | [], m, _, _, h => by
    have := h.length
    cases m with
    | nil => rfl
    | cons q m => simp at this
  | p :: l, [], _, _, h => by have := h.length; simp at this
  | p :: l, q :: m, hl, hm, h => by
    have hl' := List.pairwise_cons.1 hl
    have hm' := List.pairwise_cons.1 hm
    have h1 : p.1 ≤ q.1 := by
      rcases List.mem_cons.1 ((h.mem q).2 (by simp)) with e | e
      · rw [e]; exact Int.le_refl _
      · exact hl'.1 q e
    have h2 : q.1 ≤ p.1 := by
      rcases List.mem_cons.1 ((h.mem p).1 (by simp)) with e | e
      · rw [e]; exact Int.le_refl _
      · exact hm'.1 p e
    have h3 : p.1 = q.1 := by omega
    have h4 := h.2 p.1
    simp only [List.filter_cons, h3, beq_self_eq_true, if_true, List.cons.injEq] at h4
    obtain ⟨e, _⟩ := h4
    subst e
    refine congrArg (p :: ·) (srt_unique hl'.2 hm'.2 ⟨List.Perm.cons_inv h.1, fun x => ?_⟩)
    have := h.2 x
    by_cases hx : p.1 = x
    · simpa [List.filter_cons, hx] using this
    · have hx' : (p.1 == x) = false := by simpa using hx
      simpa [List.filter_cons, hx'] using this
/-- e behind all that are not above it. -/
def insR : List (Int × β) → Int × β → List (Int × β)
  | [], e => [e]
  | q :: l, e => if e.1 < q.1 then e :: q :: l else q :: insR l e
def stSort (l : List (Int × β)) : List (Int × β) := l.foldl insR []
theorem insR_steq : ∀ (l : List (Int × β)) (e : Int × β), Srt l → StEq (l ++ [e]) (insR l e)
  | [], e, _ => StEq.refl _
  | q :: l, e, h => by
    have h' := List.pairwise_cons.1 h
    unfold insR
    split
    · rename_i hlt
      exact StEq.ahead e (q :: l) (fun p hp => by
        rcases List.mem_cons.1 hp with rfl | hp
        · exact hlt
        · have := h'.1 p hp; omega)
    · exact StEq.append (l := [q]) (m := [q]) (StEq.refl _) (insR_steq l e h'.2)
theorem insR_srt : ∀ (l : List (Int × β)) (e : Int × β), Srt l → Srt (insR l e)
  | [], e, _ => by simp [insR, Srt]
  | q :: l, e, h => by
    have h' := List.pairwise_cons.1 h
    unfold insR
    split
    · rename_i hlt
      refine List.pairwise_cons.2 ⟨fun p hp => ?_, h⟩
      rcases List.mem_cons.1 hp with rfl | hp
      · omega
      · have := h'.1 p hp; omega
    · rename_i hlt
      refine List.pairwise_cons.2 ⟨fun p hp => ?_, insR_srt l e h'.2⟩
      have hp' := ((insR_steq l e h'.2).mem p).2 hp
      rcases List.mem_append.1 hp' with hp' | hp'
      · exact h'.1 p hp'
      · obtain rfl : p = e := by simpa using hp'
        omega
theorem foldl_insR (l : List (Int × β)) : ∀ (acc : List (Int × β)), Srt acc → Srt (l.foldl insR acc) ∧ StEq (acc ++ l) (l.foldl insR acc) := by
  induction l with
  | nil => intro acc h; exact ⟨h, by simpa using StEq.refl acc⟩
  | cons e l ih =>
    intro acc h
    obtain ⟨h1, h2⟩ := ih (insR acc e) (insR_srt acc e h)
    refine ⟨h1, StEq.trans ?_ h2⟩
    have := (insR_steq acc e h).append (StEq.refl l)
    simpa using this
theorem stSort_srt (l : List (Int × β)) : Srt (stSort l) := (foldl_insR l [] (by simp [Srt])).1
theorem stSort_steq (l : List (Int × β)) : StEq l (stSort l) := by simpa [stSort] using (foldl_insR l [] (by simp [Srt])).2
theorem stSort_of {l m : List (Int × β)} (hm : Srt m) (h : StEq l m) : m = stSort l := srt_unique hm (stSort_srt l) (h.symm.trans (stSort_steq l))
theorem stSort_len (l : List (Int × β)) : (stSort l).length = l.length := (stSort_steq l).length.symm

theorem insR_map {γ : Type} (f : β → γ) : ∀ (l : List (Int × β)) (e : Int × β), (insR l e).map (fun t => (t.1, f t.2)) = insR (l.map fun t => (t.1, f t.2)) (e.1, f e.2)
  | [], e => rfl
  | q :: l, e => by
    simp only [insR, List.map_cons]
    split
    · rfl
    · rw [← insR_map f l e]; rfl
theorem stSort_map {γ : Type} (f : β → γ) (l : List (Int × β)) : (stSort l).map (fun t => (t.1, f t.2)) = stSort (l.map fun t => (t.1, f t.2)) := by
  have h : ∀ (l acc : List (Int × β)), (l.foldl insR acc).map (fun t => (t.1, f t.2)) = (l.map fun t => (t.1, f t.2)).foldl insR (acc.map fun t => (t.1, f t.2)) := by
    intro l
    induction l with
    | nil => intro acc; rfl
    | cons e l ih => intro acc; simp only [List.foldl_cons, List.map_cons]; rw [ih, insR_map]
  exact h l []
end

/-- The cells of a row of packs. -/
def flat (ps : List PV) : List Value := ps.flatMap fun p => [.int .i64 p.1, p.2]
theorem flat_len (ps : List PV) : (flat ps).length = ps.length * 2 := by
  unfold flat; induction ps with
  | nil => rfl
  | cons p ps ih => simp [ih]; omega
theorem flat_append (a b : List PV) : flat (a ++ b) = flat a ++ flat b := by simp [flat]
theorem flat_even : ∀ (ps : List PV) (i : Nat) (p : PV), ps[i]? = some p → (flat ps)[i * 2]? = some (.int .i64 p.1) ∧ (flat ps)[i * 2 + 1]? = some p.2
  | [], i, p, h => by simp at h
  | q :: ps, 0, p, h => by
    obtain rfl : q = p := by simpa using h
    exact ⟨rfl, rfl⟩
  | q :: ps, i + 1, p, h => by
    have := flat_even ps i p (by simpa using h)
    rw [show (i + 1) * 2 = i * 2 + 2 from by omega]
    exact this
theorem flat_set : ∀ (ps : List PV) (i : Nat) (p : PV), i < ps.length → ((flat ps).set (i * 2) (.int .i64 p.1)).set (i * 2 + 1) p.2 = flat (ps.set i p)
  | [], i, p, h => by simp at h
  | q :: ps, 0, p, h => rfl
  | q :: ps, i + 1, p, h => by
    have := flat_set ps i p (by simpa using h)
    rw [show (i + 1) * 2 = i * 2 + 2 from by omega]
    show _ :: _ :: ((flat ps).set (i * 2) _).set (i * 2 + 1) _ = _ :: _ :: flat (ps.set i p)
    rw [this]
end Go.Proofs.YtfehgpjnlkgekaaGreatDoor
