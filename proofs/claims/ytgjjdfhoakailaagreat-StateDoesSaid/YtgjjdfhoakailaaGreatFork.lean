/-
  A region that draws its order, in which two operations that act may come first in either order, and what is behind them only reads.
-/
import Derived.Test.YtgjjdfhoakailaaGreatMem
namespace Go.Proofs.YtgjjdfhoakailaaGreat
open Go.RowKit
set_option linter.unusedVariables false

section
variable {P : Program} {l : List Oper} {Q : Exit → Act → World → Prop}
theorem thenN {K : Act → World → Prop} {a : Act} {w : World} (h : K a w) : Exit.then K Q .normal a w := h
/-- Two that act may come first: each of them is walked, to one end. -/
theorem wp_region_fork {id : Nat} {a : Act} {w : World} (i j : Nat) (ix iy : List (Nat × Option Nat)) (R : Value → Value → World → Prop) (F : Act → Value → Value → Act) (oi oj : Oper) (hm : P.follows .mixedOrders = true) (hsz : l.toArray.size = ix.length + 1) (hsz2 : l.toArray.size = iy.length + 1)
    (h0 : Region.ready .any l.toArray (Array.replicate l.toArray.size false) = [i, j])
    (hok : okOrd l.toArray (actors ix) ix 0 ((Array.replicate l.toArray.size false).setIfInBounds i true) = true) (hd : doneOf (actors ix) ((Array.replicate l.toArray.size false).setIfInBounds i true) = 0)
    (hok2 : okOrd l.toArray (actors iy) iy 0 ((Array.replicate l.toArray.size false).setIfInBounds j true) = true) (hd2 : doneOf (actors iy) ((Array.replicate l.toArray.size false).setIfInBounds j true) = 0)
    (hs : Region.noSelect l.toArray = true) (hoi : l.toArray[i]? = some oi) (hoj : l.toArray[j]? = some oj)
    (hij : wpList P l.toArray (Exit.then (fun a1 w1 => wpQs P l (fun e a' w' => e = .normal ∧ ∃ v0 v1, a' = F a v0 v1 ∧ R v0 v1 w') (fun _ _ => True) (ix.map fun p => (l.getD p.1 default, p.2)) 0 a1 w1) (fun e a' w' => e = .normal ∧ ∃ v0 v1, a' = F a v0 v1 ∧ R v0 v1 w')) [oi] a w.drew)
    (hji : wpList P l.toArray (Exit.then (fun a1 w1 => wpQs P l (fun e a' w' => e = .normal ∧ ∃ v0 v1, a' = F a v0 v1 ∧ R v0 v1 w') (fun _ _ => True) (iy.map fun p => (l.getD p.1 default, p.2)) 0 a1 w1) (fun e a' w' => e = .normal ∧ ∃ v0 v1, a' = F a v0 v1 ∧ R v0 v1 w')) [oj] a w.drew)
    (H : ∀ v0 v1 w', R v0 v1 w' → Q .normal (F a v0 v1) w') : (Code.region id l.toArray true).wp P Q a w := by
  refine Code.wp_mono (Q := fun e a' w' => e = .normal ∧ ∃ v0 v1, a' = F a v0 v1 ∧ R v0 v1 w') ?_ ?_
  · rintro e a' w' ⟨rfl, v0, v1, rfl, hR⟩
    exact H v0 v1 w' hR
  refine wp_region_any hm ?_
  have hQ : ∀ c (b : Act) (t : Tmp) (v : Value) (w : World), (fun (e : Exit) (a' : Act) (w' : World) => e = .normal ∧ ∃ v0 v1, a' = F a v0 v1 ∧ R v0 v1 w') (.panic c) (Act.put b (some t) v) w → (fun (e : Exit) (a' : Act) (w' : World) => e = .normal ∧ ∃ v0 v1, a' = F a v0 v1 ∧ R v0 v1 w') (.panic c) b w := fun c b t v w h => by cases h.1
  generalize Array.replicate l.toArray.size false = listed at *
  have e1 : wpAny P .any l.toArray (fun e a' w' => e = .normal ∧ ∃ v0 v1, a' = F a v0 v1 ∧ R v0 v1 w') (ix.length + 1) listed a { w with drawn := w.drawn + 1 } := by
    refine ⟨fun h => (by rw [h0] at h; cases h), fun k hk => ?_⟩
    rw [h0] at hk
    have hk' : k = i ∨ k = j := by simpa using hk
    rcases hk' with rfl | rfl
    · exact wpOp_mono (fun a1 w1 hh => wpAny_of_T (es := actors ix) (S := fun _ _ => True) _ _ _ _ (wpAnyT_of_qs (actors ix) hs hQ ix 0 _ _ _ hok trivial hd hh)) (wpOp_of_list hoi hij)
    · have e2 : ix.length = iy.length := by omega
      rw [e2]
      exact wpOp_mono (fun a1 w1 hh => wpAny_of_T (es := actors iy) (S := fun _ _ => True) _ _ _ _ (wpAnyT_of_qs (actors iy) hs hQ iy 0 _ _ _ hok2 trivial hd2 hh)) (wpOp_of_list hoj hji)
  rw [hsz]
  exact e1
end
/-- A goal held: a walk stops here. -/
def HeldG (p : Prop) : Prop := p
theorem heldG {p : Prop} (h : HeldG p) : p := h
/-- Two rows of noughts, made in either order. -/
def TwoRows (n m : Nat) (w : World) (v0 v1 : Value) (w' : World) : Prop :=
  ∃ g0 g1, v0 = .slice (some ⟨g0, 0, none⟩) n n ∧ v1 = .slice (some ⟨g1, 0, none⟩) m m ∧ g0 ≠ g1 ∧ w'.ownsRow w.heap.size 3 1 (.slice (some ⟨g0, 0, none⟩) n n) n (List.replicate n (.int .i64 0)) ∧ w'.ownsRow w.heap.size 3 1 (.slice (some ⟨g1, 0, none⟩) m m) m (List.replicate m (.int .i64 0)) ∧ Below w.heap.size w w'
theorem TwoRows.swap {n m : Nat} {w w' : World} {v0 v1 : Value} (h : TwoRows n m w v0 v1 w') : TwoRows m n w v1 v0 w' := by
  obtain ⟨g0, g1, e0, e1, hne, h0, h1, hb⟩ := h
  exact ⟨g1, g0, e1, e0, Ne.symm hne, h1, h0, hb⟩
theorem two_rows {n m : Nat} {w w1 w2 : World} (h1 : w1.ownsRow w.heap.size 3 1 (.slice (some ⟨w.heap.size, 0, none⟩) n n) n (List.replicate n (.int .i64 0))) (h2 : w2.ownsRow w.heap.size 3 1 (.slice (some ⟨w1.heap.size, 0, none⟩) m m) m (List.replicate m (.int .i64 0)))
    (hg : w1.grownBy w2 none) (hb : Below w.heap.size w w1) : TwoRows n m w (.slice (some ⟨w.heap.size, 0, none⟩) n n) (.slice (some ⟨w1.heap.size, 0, none⟩) m m) w2 := by
  have hlt : w.heap.size < w1.heap.size := (h1.lt _ rfl).2
  exact ⟨_, _, rfl, rfl, by omega, h1.kept hg (.inr (by simp [Value.ownBlock])), h2, hb.grown hg hb.size (fun k hk => by cases hk)⟩
end Go.Proofs.YtgjjdfhoakailaaGreat
