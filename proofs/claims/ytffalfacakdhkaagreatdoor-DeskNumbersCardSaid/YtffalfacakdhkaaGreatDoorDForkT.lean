/-
  what this claim needs of: ForkT (written by cut.py).
-/
import Derived.Test.YtffalfacakdhkaaGreatDoorDMem
namespace Go.Proofs.YtffalfacakdhkaaGreatDoor
open Go.RowKit
set_option linter.unusedVariables false

/-- An order: 'q i m': i only reads, up to stage m; 'act i': i alone may act; 'fork i j': i or j may act. -/
inductive OrdT where
 | done
 | q (i m : Nat) (r : OrdT)
 | act (i : Nat) (r : OrdT)
 | fork (i j : Nat) (r s : OrdT)
def OrdT.depth : OrdT → Nat
 | .done => 0
 | .q _ _ r => r.depth + 1
 | .act _ r => r.depth + 1
 | .fork _ _ r _ => r.depth + 1
section
variable {P : Program} {l : List Oper} {Q : Exit → Act → World → Prop} {S : Nat → World → Prop}
def wpQt (P : Program) (l : List Oper) (Q : Exit → Act → World → Prop) (S : Nat → World → Prop) : OrdT → Nat → Act → World → Prop
 | .done, _, a, w => Q .normal a w
 | .q i m r, k, a, w => ∃ v, YieldsIf P l.toArray (Mid S k m) (l.getD i default) v a ∧ wpQt P l Q S r k (a.put (l.getD i default).dst v) w
 | .act i r, k, a, w => wpList P l.toArray (Exit.then (fun a' w' => S (k + 1) w' ∧ wpQt P l Q S r (k + 1) a' w') Q) [l.getD i default] a w
 | .fork i j r s, k, a, w => wpList P l.toArray (Exit.then (fun a' w' => S (k + 1) w' ∧ wpQt P l Q S r (k + 1) a' w') Q) [l.getD i default] a w ∧
   wpList P l.toArray (Exit.then (fun a' w' => S (k + 1) w' ∧ wpQt P l Q S s (k + 1) a' w') Q) [l.getD j default] a w
def okT (ops : Array Oper) (es : List Nat) : OrdT → Nat → Array Bool → Bool
 | .done, _, listed => (Region.ready .any ops listed).isEmpty
 | .q i m r, k, listed => Region.free .any ops listed i && (Region.ready .any ops listed).contains i && decide (i ∉ es) && decide (lateOf ops es i ≤ m) && decide (doneOf es listed = k) &&
   es.all (fun e => !waitsFor ops i e || !listed.getD e false) && okT ops es r k (listed.setIfInBounds i true)
 | .act i r, k, listed => (Region.ready .any ops listed == [i]) && decide (doneOf es (listed.setIfInBounds i true) = k + 1) && okT ops es r (k + 1) (listed.setIfInBounds i true)
 | .fork i j r s, k, listed => (Region.ready .any ops listed == [i, j]) && decide (r.depth = s.depth) && decide (doneOf es (listed.setIfInBounds i true) = k + 1) && okT ops es r (k + 1) (listed.setIfInBounds i true) &&
   decide (doneOf es (listed.setIfInBounds j true) = k + 1) && okT ops es s (k + 1) (listed.setIfInBounds j true)
theorem wpAnyT_of_qt (es : List Nat) (hs : Region.noSelect l.toArray = true) (hQ : ∀ c a t v w, Q (.panic c) (Act.put a (some t) v) w → Q (.panic c) a w) :
  ∀ (ix : OrdT) (k : Nat) (listed : Array Bool) (a : Act) (w : World), okT l.toArray es ix k listed = true → S k w → doneOf es listed = k →
   wpQt P l Q S ix k a w → wpAnyT P l.toArray Q es S ix.depth listed a w
 | .done, k, listed, a, w, hok, hS, _, h => by
  simp only [okT, List.isEmpty_iff] at hok
  exact ⟨hok, h⟩
 | .q i m r, k, listed, a, w, hok, hS, hd, h => by
  simp only [okT, Bool.and_eq_true, decide_eq_true_eq] at hok
  obtain ⟨⟨⟨⟨⟨⟨h1, h2⟩, h3⟩, h4⟩, h5⟩, h6⟩, h7⟩ := hok
  have h2' : i ∈ Region.ready .any l.toArray listed := by simpa using h2
  obtain ⟨o, ho⟩ := getElem?_of_ready h2'
  have ho' : l.getD i default = o := by simpa [List.getD] using congrArg (·.getD default) ho
  simp only [wpQt, ho'] at h
  obtain ⟨v, hy, hr⟩ := h
  have hinv : ∀ e ∈ es, waitsFor l.toArray i e = true → listed.getD e false = false := fun e he hw => by
   have := List.all_eq_true.1 h6 e he
   simpa [hw] using this
  have hdone : doneOf es (listed.setIfInBounds i true) = k := by
   rw [← hd]
   unfold doneOf
   congr 1
   apply List.filter_congr
   intro e he
   rw [getD_set_ne false (by rintro rfl; exact h3 he)]
  exact wpAnyT_first ho (Region.noSelect_spec hs) (fun c a w => (by cases o.dst with | none => exact fun h => h | some t => exact hQ c a t v w)) h3 k _ _ _ _ (Region.free_spec ho h1) hinv (by omega) h2'
   (YieldsIf.sub hy (fun w ⟨j, hj1, hj2, hj3⟩ => ⟨j, hj1, by omega, hj3⟩)) (by rw [hd]; exact hS) (wpAnyT_of_qt es hs hQ r k _ _ _ h7 hS hdone hr)
 | .act i r, k, listed, a, w, hok, hS, hd, h => by
  simp only [okT, Bool.and_eq_true, beq_iff_eq, decide_eq_true_eq] at hok
  obtain ⟨⟨h1, h2⟩, h3⟩ := hok
  obtain ⟨o, ho⟩ := getElem?_of_ready (i := i) (by rw [h1]; simp)
  have ho' : l.getD i default = o := by simpa [List.getD] using congrArg (·.getD default) ho
  simp only [wpQt, ho'] at h
  refine ⟨fun h0 => (by rw [h1] at h0; cases h0), fun j hj => ?_⟩
  rw [h1] at hj
  obtain rfl : j = i := by simpa using hj
  exact wpOp_mono (fun a' w' ⟨hS', hr⟩ => ⟨by rw [h2]; exact hS', wpAnyT_of_qt es hs hQ r (k + 1) _ a' w' h3 hS' h2 hr⟩) (wpOp_of_list ho h)
 | .fork i j r s, k, listed, a, w, hok, hS, hd, h => by
  simp only [okT, Bool.and_eq_true, beq_iff_eq, decide_eq_true_eq] at hok
  obtain ⟨⟨⟨⟨⟨h1, hde⟩, h2⟩, h3⟩, h4⟩, h5⟩ := hok
  obtain ⟨o, ho⟩ := getElem?_of_ready (i := i) (by rw [h1]; simp)
  have ho' : l.getD i default = o := by simpa [List.getD] using congrArg (·.getD default) ho
  obtain ⟨o2, ho2⟩ := getElem?_of_ready (i := j) (by rw [h1]; simp)
  have ho2' : l.getD j default = o2 := by simpa [List.getD] using congrArg (·.getD default) ho2
  simp only [wpQt, ho', ho2'] at h
  refine ⟨fun h0 => (by rw [h1] at h0; cases h0), fun x hx => ?_⟩
  rw [h1] at hx
  have hx' : x = i ∨ x = j := by simpa using hx
  rcases hx' with rfl | rfl
  ·exact wpOp_mono (fun a' w' ⟨hS', hr⟩ => ⟨by rw [h2]; exact hS', wpAnyT_of_qt es hs hQ r (k + 1) _ a' w' h3 hS' h2 hr⟩) (wpOp_of_list ho h.1)
  ·refine wpOp_mono (fun a' w' ⟨hS', hr⟩ => ⟨by rw [h4]; exact hS', ?_⟩) (wpOp_of_list ho2 h.2)
   rw [hde]
   exact wpAnyT_of_qt es hs hQ s (k + 1) _ a' w' h5 hS' h4 hr
theorem wp_region_qt {id : Nat} {a : Act} {w : World} (es : List Nat) (S : Nat → World → Prop) (ix : OrdT) (hm : P.follows .mixedOrders = true) (hlen : ix.depth = l.toArray.size)
  (hok : okT l.toArray es ix 0 (Array.replicate l.toArray.size false) = true) (hd : doneOf es (Array.replicate l.toArray.size false) = 0) (hs : Region.noSelect l.toArray = true)
  (hQ : ∀ c a t v w, Q (.panic c) (Act.put a (some t) v) w → Q (.panic c) a w)
  (hS : S 0 w.drew) (h : wpQt P l Q S ix 0 a w.drew) : (Code.region id l.toArray true).wp P Q a w :=
 wp_region_any hm (wpAny_of_T _ _ _ _ (by rw [← hlen]; exact wpAnyT_of_qt es hs hQ ix 0 _ a _ (by rw [hlen]; exact hok) hS (by rw [hlen]; exact hd) h))
/-- What only reads, first. -/
def preT : List (Nat × Nat) → OrdT → OrdT
 | [], r => r
 | (i, m) :: ix, r => .q i m (preT ix r)
theorem qt_pre {r : OrdT} : ∀ (ix : List (Nat × Nat)) {k : Nat} {a : Act} {w : World}, wpQs P l (fun e a' w' => e = .normal → wpQt P l Q S r k a' w') S (ix.map fun p => (l.getD p.1 default, some p.2)) k a w → wpQt P l Q S (preT ix r) k a w
 | [], k, a, w, h => h rfl
 | (i, m) :: ix, k, a, w, h => by
  simp only [List.map_cons, wpQs] at h
  obtain ⟨v, hy, hr⟩ := h
  exact ⟨v, hy, qt_pre ix hr⟩
theorem qt_act {i : Nat} {r : OrdT} {k : Nat} {a : Act} {w : World} (h : wpList P l.toArray (Exit.then (fun a' w' => S (k + 1) w' ∧ wpQt P l Q S r (k + 1) a' w') Q) [l.getD i default] a w) : wpQt P l Q S (.act i r) k a w := h
theorem qt_fork {i j : Nat} {r s : OrdT} {k : Nat} {a : Act} {w : World} (h1 : wpList P l.toArray (Exit.then (fun a' w' => S (k + 1) w' ∧ wpQt P l Q S r (k + 1) a' w') Q) [l.getD i default] a w)
  (h2 : wpList P l.toArray (Exit.then (fun a' w' => S (k + 1) w' ∧ wpQt P l Q S s (k + 1) a' w') Q) [l.getD j default] a w) : wpQt P l Q S (.fork i j r s) k a w := ⟨h1, h2⟩
theorem qt_done {k : Nat} {a : Act} {w : World} (h : Q .normal a w) : wpQt P l Q S .done k a w := h
end
end Go.Proofs.YtffalfacakdhkaaGreatDoor
