/-
  what this claim needs of: StFk (written by cut.py).
-/
import Derived.Test.YtpadifphnbdbpaaGreatPFork
namespace Go.Proofs.YtpadifphnbdbpaaGreat
open Go.RowKit
set_option linter.unusedVariables false

/-- The operations that are taken ahead. -/
def listAll (pre : List (Nat × Nat)) (listed : Array Bool) : Array Bool := pre.foldl (fun L p => L.setIfInBounds p.1 true) listed
def okPre (ops : Array Oper) (es : List Nat) : List (Nat × Nat) → Array Bool → Bool
  | [], _ => true
  | (i, m) :: r, listed => Region.free .any ops listed i && (Region.ready .any ops listed).contains i && decide (i ∉ es) && decide (lateOf ops es i ≤ m) &&
      es.all (fun e => !waitsFor ops i e || !listed.getD e false) && okPre ops es r (listed.setIfInBounds i true)
section
variable {P : Program} {l : List Oper} {Q : Exit → Act → World → Prop} {S : Nat → World → Prop}
theorem wpAnyT_pre (es : List Nat) (hs : Region.noSelect l.toArray = true) (hQ : ∀ c a t v w, Q (.panic c) (Act.put a (some t) v) w → Q (.panic c) a w) (n : Nat) :
    ∀ (pre : List (Nat × Nat)) (listed : Array Bool) (a : Act) (w : World), okPre l.toArray es pre listed = true → S 0 w → doneOf es listed = 0 →
      wpQs P l (fun _ a' w' => S 0 w' → doneOf es (listAll pre listed) = 0 → wpAnyT P l.toArray Q es S n (listAll pre listed) a' w') S (pre.map fun p => (l.getD p.1 default, some p.2)) 0 a w → wpAnyT P l.toArray Q es S (pre.length + n) listed a w
  | [], listed, a, w, hok, hS, hd, h => by
    rw [List.length_nil, Nat.zero_add]
    exact h hS hd
  | (i, m) :: r, listed, a, w, hok, hS, hd, h => by
    simp only [okPre, Bool.and_eq_true, decide_eq_true_eq] at hok
    obtain ⟨⟨⟨⟨⟨h1, h2⟩, h3⟩, h4⟩, h6⟩, h7⟩ := hok
    have h2' : i ∈ Region.ready .any l.toArray listed := by simpa using h2
    obtain ⟨o, ho⟩ := getElem?_of_ready h2'
    have ho' : l.getD i default = o := by simpa [List.getD] using congrArg (·.getD default) ho
    simp only [List.map_cons, wpQs, ho'] at h
    obtain ⟨v, hy, hr⟩ := h
    have hinv : ∀ e ∈ es, waitsFor l.toArray i e = true → listed.getD e false = false := fun e he hw => by
      have := List.all_eq_true.1 h6 e he
      simpa [hw] using this
    have hdone : doneOf es (listed.setIfInBounds i true) = 0 := by
      rw [← hd]
      unfold doneOf
      congr 1
      apply List.filter_congr
      intro e he
      rw [getD_set_ne false (by rintro rfl; exact h3 he)]
    have e : ((i, m) :: r).length + n = (r.length + n) + 1 := by rw [List.length_cons]; omega
    rw [e]
    exact wpAnyT_first ho (Region.noSelect_spec hs) (fun c a w => (by cases o.dst with | none => exact fun h => h | some t => exact hQ c a t v w)) h3 0 _ _ _ _ (Region.free_spec ho h1) hinv (Nat.zero_le _) h2'
      (YieldsIf.sub hy (fun w ⟨j, hj1, hj2, hj3⟩ => ⟨j, hj1, by omega, hj3⟩)) (by rw [hd]; exact hS) (wpAnyT_pre es hs hQ n r _ _ _ h7 hS hdone hr)
/-- Two that act, behind what only reads. -/
theorem wp_region_two {id : Nat} {a : Act} {w : World} (S : Nat → World → Prop) (es : List Nat) (pre : List (Nat × Nat)) (i j : Nat) (ix iy : List (Nat × Option Nat)) (R : Value → World → Prop) (F : Act → Value → Act) (oi oj : Oper) (hm : P.follows .mixedOrders = true)
    (hlen : l.toArray.size = pre.length + (ix.length + 1)) (hlen2 : ix.length = iy.length)
    (hpre : okPre l.toArray es pre (Array.replicate l.toArray.size false) = true) (h0 : Region.ready .any l.toArray (listAll pre (Array.replicate l.toArray.size false)) = [i, j])
    (hd0 : doneOf es (Array.replicate l.toArray.size false) = 0)
    (hok : okOrd l.toArray es ix 1 ((listAll pre (Array.replicate l.toArray.size false)).setIfInBounds i true) = true) (hd : doneOf es ((listAll pre (Array.replicate l.toArray.size false)).setIfInBounds i true) = 1)
    (hok2 : okOrd l.toArray es iy 1 ((listAll pre (Array.replicate l.toArray.size false)).setIfInBounds j true) = true) (hd2 : doneOf es ((listAll pre (Array.replicate l.toArray.size false)).setIfInBounds j true) = 1)
    (hs : Region.noSelect l.toArray = true) (hoi : l.toArray[i]? = some oi) (hoj : l.toArray[j]? = some oj) (hS : S 0 w.drew)
    (h : wpQs P l (fun _ a1 w1 => HeldG (wpList P l.toArray (Exit.then (fun a2 w2 => S 1 w2 ∧ wpQs P l (fun e a' w' => e = .normal ∧ ∃ v, a' = F a v ∧ R v w') S (ix.map fun p => (l.getD p.1 default, p.2)) 1 a2 w2) (fun e a' w' => e = .normal ∧ ∃ v, a' = F a v ∧ R v w')) [oi] a1 w1) ∧
        HeldG (wpList P l.toArray (Exit.then (fun a2 w2 => S 1 w2 ∧ wpQs P l (fun e a' w' => e = .normal ∧ ∃ v, a' = F a v ∧ R v w') S (iy.map fun p => (l.getD p.1 default, p.2)) 1 a2 w2) (fun e a' w' => e = .normal ∧ ∃ v, a' = F a v ∧ R v w')) [oj] a1 w1))
      S (pre.map fun p => (l.getD p.1 default, some p.2)) 0 a w.drew)
    (H : ∀ v w', R v w' → Q .normal (F a v) w') : (Code.region id l.toArray true).wp P Q a w := by
  refine Code.wp_mono (Q := fun e a' w' => e = .normal ∧ ∃ v, a' = F a v ∧ R v w') ?_ ?_
  · rintro e a' w' ⟨rfl, v, rfl, hR⟩
    exact H v w' hR
  refine wp_region_any hm (wpAny_of_T (es := es) (S := S) _ _ _ _ ?_)
  have hQ : ∀ c (b : Act) (t : Tmp) (v : Value) (w : World), (fun (e : Exit) (a' : Act) (w' : World) => e = .normal ∧ ∃ v, a' = F a v ∧ R v w') (.panic c) (Act.put b (some t) v) w → (fun (e : Exit) (a' : Act) (w' : World) => e = .normal ∧ ∃ v, a' = F a v ∧ R v w') (.panic c) b w := fun c b t v w h => by cases h.1
  rw [hlen] at *
  refine wpAnyT_pre es hs hQ (ix.length + 1) pre _ _ _ hpre hS hd0 ?_
  have key : ∀ a1 w1, (HeldG (wpList P l.toArray (Exit.then (fun a2 w2 => S 1 w2 ∧ wpQs P l (fun e a' w' => e = .normal ∧ ∃ v, a' = F a v ∧ R v w') S (ix.map fun p => (l.getD p.1 default, p.2)) 1 a2 w2) (fun e a' w' => e = .normal ∧ ∃ v, a' = F a v ∧ R v w')) [oi] a1 w1) ∧
        HeldG (wpList P l.toArray (Exit.then (fun a2 w2 => S 1 w2 ∧ wpQs P l (fun e a' w' => e = .normal ∧ ∃ v, a' = F a v ∧ R v w') S (iy.map fun p => (l.getD p.1 default, p.2)) 1 a2 w2) (fun e a' w' => e = .normal ∧ ∃ v, a' = F a v ∧ R v w')) [oj] a1 w1)) →
      (S 0 w1 → doneOf es (listAll pre (Array.replicate (pre.length + (ix.length + 1)) false)) = 0 → wpAnyT P l.toArray (fun e a' w' => e = .normal ∧ ∃ v, a' = F a v ∧ R v w') es S (ix.length + 1) (listAll pre (Array.replicate (pre.length + (ix.length + 1)) false)) a1 w1) := by
    rintro a1 w1 ⟨hi, hj⟩ _ _
    refine ⟨fun h => (by rw [h0] at h; cases h), fun k hk => ?_⟩
    rw [h0] at hk
    have hk' : k = i ∨ k = j := by simpa using hk
    rcases hk' with rfl | rfl
    · exact wpOp_mono (fun a2 w2 hh => ⟨by rw [hd]; exact hh.1, wpAnyT_of_qs es hs hQ ix 1 _ _ _ hok hh.1 hd hh.2⟩) (wpOp_of_list hoi hi)
    · rw [hlen2]
      rw [hlen2] at hok2 hd2
      exact wpOp_mono (fun a2 w2 hh => ⟨by rw [hd2]; exact hh.1, wpAnyT_of_qs es hs hQ iy 1 _ _ _ hok2 hh.1 hd2 hh.2⟩) (wpOp_of_list hoj hj)
  have mono : ∀ (ps : List (Oper × Option Nat)) (k : Nat) (Q1 Q2 : Exit → Act → World → Prop), (∀ p ∈ ps, p.2.isSome = true) → (∀ e a w, Q1 e a w → Q2 e a w) → ∀ a w, wpQs P l Q1 S ps k a w → wpQs P l Q2 S ps k a w := by
    intro ps
    induction ps with
    | nil => intro k Q1 Q2 _ h a w hh; exact h _ _ _ hh
    | cons p ps ih =>
      intro k Q1 Q2 hp h a w hh
      obtain ⟨o, m⟩ := p
      cases m with
      | none => have := hp _ (List.mem_cons_self ..); simp at this
      | some m =>
        obtain ⟨v, h1, h2⟩ := hh
        exact ⟨v, h1, ih k Q1 Q2 (fun p hp' => hp p (List.mem_cons_of_mem _ hp')) h _ _ h2⟩
  exact mono _ 0 _ _ (by intro p hp; obtain ⟨x, _, rfl⟩ := List.mem_map.1 hp; rfl) (fun _ a1 w1 hh => key a1 w1 hh) _ _ h
end
theorem toHeld {p : Prop} (h : p) : HeldG p := h
end Go.Proofs.YtpadifphnbdbpaaGreat
