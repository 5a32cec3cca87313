/-
  A statement that draws its order, walked once: what only reads is taken first, what acts comes up alone. 'S k': what is known of the world while k of those that act are done; an operation that only reads must yield the same value at every stage at which it may come up.
  One step more of a region's walk: an operation that only reads, between two stages.
-/
import Derived.Test.YtacidmamfkfipaaDoorBase
namespace Go.Proofs.YtacidmamfkfipaaDoor
open Go.RowKit
set_option linter.unusedVariables false

section
variable {P : Program} {ops : Array Oper} {Q : Exit → Act → World → Prop} {es : List Nat} {S : Nat → World → Prop}

/-- How many of those that act are done. -/
def doneOf (es : List Nat) (listed : Array Bool) : Nat := (es.filter fun e => listed.getD e false).length
/-- Does e wait for i by an edge of its own? -/
def waitsFor (ops : Array Oper) (i e : Nat) : Bool := match ops[e]? with
  | some o => o.after.any fun x => Region.binds .any x && x.on == i
  | none => false
def lateOf (ops : Array Oper) (es : List Nat) (i : Nat) : Nat := (es.filter fun e => !waitsFor ops i e).length

/-- Whatever order is picked from here on, behind every operation what is said of its stage holds. -/
def wpAnyT (P : Program) (ops : Array Oper) (Q : Exit → Act → World → Prop) (es : List Nat) (S : Nat → World → Prop) : Nat → Array Bool → Act → World → Prop
  | 0, listed, a, w => Region.ready .any ops listed = [] ∧ Q .normal a w
  | fuel + 1, listed, a, w =>
    (Region.ready .any ops listed = [] → Q .normal a w) ∧
    ∀ i ∈ Region.ready .any ops listed, wpOp P ops Q i (fun a' w' => S (doneOf es (listed.setIfInBounds i true)) w' ∧ wpAnyT P ops Q es S fuel (listed.setIfInBounds i true) a' w') a w
theorem wpAny_of_T : ∀ (fuel : Nat) (listed : Array Bool) (a : Act) (w : World), wpAnyT P ops Q es S fuel listed a w → wpAny P .any ops Q fuel listed a w
  | 0, _, _, _, h => h
  | fuel + 1, _, _, _, h => ⟨h.1, fun i hi => wpOp_mono (fun a' w' h' => wpAny_of_T fuel _ a' w' h'.2) (h.2 i hi)⟩

theorem doneOf_mono (listed : Array Bool) (j : Nat) : doneOf es listed ≤ doneOf es (listed.setIfInBounds j true) := by
  unfold doneOf
  induction es with
  | nil => simp
  | cons e es ih =>
    simp only [List.filter_cons]
    by_cases h : listed.getD e false = true
    · rw [if_pos h, if_pos (getD_set_true h)]; simpa using ih
    · rw [if_neg h]
      split
      · simp only [List.length_cons]; omega
      · exact ih
theorem doneOf_le (listed : Array Bool) (i : Nat) (h : ∀ e ∈ es, waitsFor ops i e = true → listed.getD e false = false) : doneOf es listed ≤ lateOf ops es i := by
  unfold doneOf lateOf
  induction es with
  | nil => simp
  | cons e es ih =>
    have ih' := ih (fun x hx => h x (List.mem_cons_of_mem _ hx))
    simp only [List.filter_cons]
    by_cases hw : waitsFor ops i e = true
    · rw [if_neg (by rw [h e (by simp) hw]; simp), if_neg (by rw [hw]; simp)]; exact ih'
    · have hw' : waitsFor ops i e = false := by simpa using hw
      rw [if_pos (show (!waitsFor ops i e) = true by rw [hw']; rfl)]
      split
      · simp only [List.length_cons]; omega
      · simp only [List.length_cons]; omega

/-- The worlds that an operation may meet from stage k to stage m. -/
def Mid (S : Nat → World → Prop) (k m : Nat) (w : World) : Prop := ∃ j, k ≤ j ∧ j ≤ m ∧ S j w

theorem wpAnyT_first {i : Nat} {oi : Oper} {v : Value} (hi : ops[i]? = some oi) (hsel : ∀ (j : Nat) (o : Oper) cs b, ops[j]? = some o → o.op ≠ .select cs b)
    (hQ : ∀ c a w, Q (.panic c) (a.put oi.dst v) w → Q (.panic c) a w) (hie : i ∉ es) (k : Nat) :
    ∀ (fuel : Nat) (listed : Array Bool) (a : Act) (w : World),
      (∀ j oj, ops[j]? = some oj → j ≠ i → listed.getD j true = false → (∀ e ∈ oj.after, Region.binds .any e = true → e.on ≠ i) → oi.apart ops oj = true) →
      (∀ e ∈ es, waitsFor ops i e = true → listed.getD e false = false) → k ≤ doneOf es listed →
      i ∈ Region.ready .any ops listed → YieldsIf P ops (Mid S k (lateOf ops es i)) oi v a → S (doneOf es listed) w →
      wpAnyT P ops Q es S fuel (listed.setIfInBounds i true) (a.put oi.dst v) w → wpAnyT P ops Q es S (fuel + 1) listed a w := by
  have hdone : ∀ listed : Array Bool, doneOf es (listed.setIfInBounds i true) = doneOf es listed := by
    intro listed
    unfold doneOf
    congr 1
    apply List.filter_congr
    intro e he
    rw [getD_set_ne false (by rintro rfl; exact hie he)]
  intro fuel
  induction fuel with
  | zero =>
    intro listed a w _ hinv hk hr hy hS H
    refine ⟨fun h => (by rw [h] at hr; cases hr), fun j hj => ?_⟩
    by_cases hji : j = i
    · subst hji; exact hy.wpOp hi ⟨_, hk, doneOf_le listed j hinv, hS⟩ ⟨by rw [hdone]; exact hS, H⟩
    · have := ready_mono hj hji
      rw [H.1] at this
      cases this
  | succ fuel ih =>
    intro listed a w hfree hinv hk hr hy hS H
    refine ⟨fun h => (by rw [h] at hr; cases hr), fun j hj => ?_⟩
    by_cases hji : j = i
    · subst hji; exact hy.wpOp hi ⟨_, hk, doneOf_le listed j hinv, hS⟩ ⟨by rw [hdone]; exact hS, H⟩
    · have h1 := H.2 j (ready_mono hj hji)
      obtain ⟨hjun, oj, hoj, hall⟩ := mem_ready.1 hj
      have hnot : ∀ e ∈ oj.after, Region.binds .any e = true → e.on ≠ i := fun e he hb heq => by
        have h1 := hall e he hb
        have h0 := (mem_ready.1 hr).1
        rw [heq] at h1
        rcases Nat.lt_or_ge i listed.size with h' | h'
        · simp [h'] at h0 h1; rw [h0] at h1; cases h1
        · simp [Array.getElem?_eq_none h'] at h1
      have h2 := wpOp_putIf hoj (hfree j oj hoj hji hjun hnot) (fun cs b => hsel i oi cs b hi) (fun cs b => hsel j oj cs b hoj) hQ hy h1
      have hfree' : ∀ k ok, ops[k]? = some ok → k ≠ i → (listed.setIfInBounds j true).getD k true = false →
          (∀ e ∈ ok.after, Region.binds .any e = true → e.on ≠ i) → oi.apart ops ok = true := fun k ok hk hki hun hno => by
        refine hfree k ok hk hki ?_ hno
        by_cases hjk : j = k
        · subst hjk; exact hjun
        · rw [getD_set_ne true hjk] at hun; exact hun
      have hinv' : ∀ e ∈ es, waitsFor ops i e = true → (listed.setIfInBounds j true).getD e false = false := fun e he hw => by
        by_cases hje : j = e
        · subst hje
          unfold waitsFor at hw
          rw [hoj] at hw
          obtain ⟨x, hx, hb⟩ := Array.any_eq_true'.1 hw
          simp only [Bool.and_eq_true, beq_iff_eq] at hb
          exact absurd hb.2 (hnot x hx hb.1)
        · rw [getD_set_ne false hje]; exact hinv e he hw
      refine wpOp_mono (fun a' w' h3 => ?_) h2
      obtain ⟨h31, h32, h33⟩ := h3
      have hcomm : (listed.setIfInBounds i true).setIfInBounds j true = (listed.setIfInBounds j true).setIfInBounds i true := by rw [Array.setIfInBounds_comm _ _ hji]
      rw [hcomm] at h32 h33
      rw [hdone] at h32
      exact ⟨h32, ih (listed.setIfInBounds j true) a' w' hfree' hinv' (Nat.le_trans hk (doneOf_mono listed j)) (ready_mono hr (Ne.symm hji)) h31 h32 h33⟩

end

section
variable {P : Program} {l : List Oper} {Q : Exit → Act → World → Prop} {S : Nat → World → Prop}

/-- The walk of one order, from stage k on: 'some m': the operation only reads, and may come up till stage m; 'none': it acts. -/
def wpQs (P : Program) (l : List Oper) (Q : Exit → Act → World → Prop) (S : Nat → World → Prop) : List (Oper × Option Nat) → Nat → Act → World → Prop
  | [], _, a, w => Q .normal a w
  | (o, some m) :: r, k, a, w => ∃ v, YieldsIf P l.toArray (Mid S k m) o v a ∧ wpQs P l Q S r k (a.put o.dst v) w
  | (o, none) :: r, k, a, w => wpList P l.toArray (Exit.then (fun a' w' => S (k + 1) w' ∧ wpQs P l Q S r (k + 1) a' w') Q) [o] a w

/-- Those that act. -/
def actors : List (Nat × Option Nat) → List Nat
  | [] => []
  | (i, none) :: r => i :: actors r
  | (_, some _) :: r => actors r

/-- Is this an order in which each that only reads may be taken first, and each that acts stands alone? -/
def okOrd (ops : Array Oper) (es : List Nat) : List (Nat × Option Nat) → Nat → Array Bool → Bool
  | [], _, listed => (Region.ready .any ops listed).isEmpty
  | (i, some m) :: r, k, listed => Region.free .any ops listed i && (Region.ready .any ops listed).contains i && decide (i ∉ es) && decide (lateOf ops es i ≤ m) && decide (doneOf es listed = k) &&
      es.all (fun e => !waitsFor ops i e || !listed.getD e false) && okOrd ops es r k (listed.setIfInBounds i true)
  | (i, none) :: r, k, listed => (Region.ready .any ops listed == [i]) && decide (doneOf es (listed.setIfInBounds i true) = k + 1) && okOrd ops es r (k + 1) (listed.setIfInBounds i true)

theorem upon_then {o : Oper} {a : Act} {K K' : Act → World → Prop} {w : World} (h : o.wp P a w K (Exit.then K' Q)) : o.wp P a w K Q := by
  unfold Oper.wp Oper.upon at *
  generalize (execOp a.eval o).run P w = r at *
  split <;> simp_all [Exit.then, LetsOut]

theorem wpOp_of_list {ops : Array Oper} {i : Nat} {o : Oper} {K : Act → World → Prop} {a : Act} {w : World} (ho : ops[i]? = some o) (h : wpList P ops (Exit.then K Q) [o] a w) : wpOp P ops Q i K a w := by
  unfold wpOp
  simp only [ho]
  unfold wpList at h
  split at h
  · rename_i hw
    rw [if_pos hw]
    rcases h with h | ⟨h1, h2⟩
    · exact .inl (upon_then (Oper.wp_mono (fun _ _ h => h) h))
    · exact .inr ⟨h1, h2⟩
  · rename_i hw
    rw [if_neg hw]
    exact h

theorem getElem?_of_ready {ops : Array Oper} {i : Nat} {listed : Array Bool} (h : i ∈ Region.ready .any ops listed) : ∃ o, ops[i]? = some o := by
  obtain ⟨_, o, ho, _⟩ := mem_ready.1 h
  exact ⟨o, ho⟩
theorem YieldsIf.sub {ops : Array Oper} {A B : World → Prop} {o : Oper} {v : Value} {a : Act} (h : YieldsIf P ops A o v a) (hs : ∀ w, B w → A w) : YieldsIf P ops B o v a :=
  h.imp (fun ⟨h1, h2⟩ => ⟨h1, fun w hw => h2 w (hs w hw)⟩) id

theorem wpAnyT_of_qs (es : List Nat) (hs : Region.noSelect l.toArray = true) (hQ : ∀ c a t v w, Q (.panic c) (Act.put a (some t) v) w → Q (.panic c) a w) :
    ∀ (ix : List (Nat × Option Nat)) (k : Nat) (listed : Array Bool) (a : Act) (w : World), okOrd l.toArray es ix k listed = true → S k w → doneOf es listed = k →
      wpQs P l Q S (ix.map fun p => (l.getD p.1 default, p.2)) k a w → wpAnyT P l.toArray Q es S ix.length listed a w
  | [], k, listed, a, w, hok, hS, _, h => by
    simp only [okOrd, List.isEmpty_iff] at hok
    exact ⟨hok, h⟩
  | (i, some m) :: r, k, listed, a, w, hok, hS, hd, h => by
    simp only [okOrd, Bool.and_eq_true, decide_eq_true_eq] at hok
    obtain ⟨⟨⟨⟨⟨⟨h1, h2⟩, h3⟩, h4⟩, h5⟩, h6⟩, h7⟩ := hok
    have h2' : i ∈ Region.ready .any l.toArray listed := by simpa using h2
    obtain ⟨o, ho⟩ := getElem?_of_ready h2'
    have ho' : l.getD i default = o := by simpa [List.getD] using congrArg (·.getD default) ho
    simp only [List.map_cons, wpQs, ho'] at h
    obtain ⟨v, hy, hr⟩ := h
    have hinv : ∀ e ∈ es, waitsFor l.toArray i e = true → listed.getD e false = false := fun e he hw => by
      have := List.all_eq_true.1 h6 e he
      simpa [hw] using this
    have hdone : doneOf es (listed.setIfInBounds i true) = k := by
      rw [← hd]
      unfold doneOf
      congr 1
      apply List.filter_congr
      intro e he
      rw [getD_set_ne false (by rintro rfl; exact h3 he)]
    exact wpAnyT_first ho (Region.noSelect_spec hs) (fun c a w => (by cases o.dst with | none => exact fun h => h | some t => exact hQ c a t v w)) h3 k _ _ _ _ (Region.free_spec ho h1) hinv (by omega) h2'
      (YieldsIf.sub hy (fun w ⟨j, hj1, hj2, hj3⟩ => ⟨j, hj1, by omega, hj3⟩)) (by rw [hd]; exact hS) (wpAnyT_of_qs es hs hQ r k _ _ _ h7 hS hdone hr)
  | (i, none) :: r, k, listed, a, w, hok, hS, hd, h => by
    simp only [okOrd, Bool.and_eq_true, beq_iff_eq, decide_eq_true_eq] at hok
    obtain ⟨⟨h1, h2⟩, h3⟩ := hok
    obtain ⟨o, ho⟩ := getElem?_of_ready (i := i) (by rw [h1]; simp)
    have ho' : l.getD i default = o := by simpa [List.getD] using congrArg (·.getD default) ho
    simp only [List.map_cons, wpQs, ho'] at h
    refine ⟨fun h0 => (by rw [h1] at h0; cases h0), fun j hj => ?_⟩
    rw [h1] at hj
    obtain rfl : j = i := by simpa using hj
    exact wpOp_mono (fun a' w' ⟨hS', hr⟩ => ⟨by rw [h2]; exact hS', wpAnyT_of_qs es hs hQ r (k + 1) _ a' w' h3 hS' h2 hr⟩) (wpOp_of_list ho h)

/-- The beginning. -/
theorem wp_region_qs {id : Nat} {a : Act} {w : World} (S : Nat → World → Prop) (ix : List (Nat × Option Nat)) (hm : P.follows .mixedOrders = true) (hlen : ix.length = l.toArray.size)
    (hok : okOrd l.toArray (actors ix) ix 0 (Array.replicate l.toArray.size false) = true) (hd : doneOf (actors ix) (Array.replicate l.toArray.size false) = 0) (hs : Region.noSelect l.toArray = true)
    (hQ : ∀ c a t v w, Q (.panic c) (Act.put a (some t) v) w → Q (.panic c) a w)
    (hS : S 0 w.drew) (h : wpQs P l Q S (ix.map fun p => (l.getD p.1 default, p.2)) 0 a w.drew) : (Code.region id l.toArray true).wp P Q a w :=
  wp_region_any hm (wpAny_of_T _ _ _ _ (by rw [← hlen]; exact wpAnyT_of_qs (actors ix) hs hQ ix 0 _ a _ (by rw [hlen]; exact hok) hS (by rw [hlen]; exact hd) h))

theorem qs_nil {k : Nat} {a : Act} {w : World} (h : Q .normal a w) : wpQs P l Q S [] k a w := h
/-- At one stage alone. -/
theorem qs_now {o : Oper} {r : List (Oper × Option Nat)} {k : Nat} {a : Act} {w : World} {v : Value} (hw : Region.wanted o (yielded l.toArray a.tmps) = true)
    (hv : ∀ w', S k w' → (execOp a.eval o).run P w' = .ok (.value v) w') (h : wpQs P l Q S r k (a.put o.dst v) w) : wpQs P l Q S ((o, some k) :: r) k a w :=
  ⟨v, .inl ⟨hw, fun w' ⟨j, h1, h2, h3⟩ => hv w' (by obtain rfl : j = k := by omega
                                                    exact h3)⟩, h⟩
/-- At whatever stage. -/
theorem qs_run {o : Oper} {r : List (Oper × Option Nat)} {k m : Nat} {a : Act} {w : World} {v : Value} (hw : Region.wanted o (yielded l.toArray a.tmps) = true)
    (hv : ∀ j w', S j w' → (execOp a.eval o).run P w' = .ok (.value v) w') (h : wpQs P l Q S r k (a.put o.dst v) w) : wpQs P l Q S ((o, some m) :: r) k a w :=
  ⟨v, .inl ⟨hw, fun w' ⟨j, _, _, h3⟩ => hv j w' h3⟩, h⟩
theorem qs_skip {o : Oper} {r : List (Oper × Option Nat)} {k m : Nat} {a : Act} {w : World} (hw : Region.wanted o (yielded l.toArray a.tmps) = false)
    (h : wpQs P l Q S r k (a.put o.dst undef) w) : wpQs P l Q S ((o, some m) :: r) k a w := ⟨undef, .inr ⟨hw, rfl⟩, h⟩
theorem qs_act {o : Oper} {r : List (Oper × Option Nat)} {k : Nat} {a : Act} {w : World} (h : wpList P l.toArray (Exit.then (fun a' w' => S (k + 1) w' ∧ wpQs P l Q S r (k + 1) a' w') Q) [o] a w) :
    wpQs P l Q S ((o, none) :: r) k a w := h
/-- A whole row is loaded. -/
theorem qs_row {o : Oper} {r : List (Oper × Option Nat)} {k m : Nat} {a : Act} {w : World} (hw : Region.wanted o (yielded l.toArray a.tmps) = true) (ty : TypeId) (x : Operand) (ho : o.op = .load ty x)
    (b off : Nat) (hx : a.eval x = .pointer (some ⟨b, off, none⟩)) (cs : List Value) (d : TypeDesc) (hS : ∀ j w, k ≤ j → j ≤ m → S j w → w.rangeAt b off cs) (hu : P.underlying ty = some d) (hd : d.isRow = true) (hi : (P.info? ty).map (·.size) = some cs.length)
    (h : wpQs P l Q S r k (a.put o.dst (.agg cs.toArray)) w) : wpQs P l Q S ((o, some m) :: r) k a w :=
  ⟨_, yieldsIf_load_mid hw ty x ho b off hx cs d (fun w ⟨j, h1, h2, h3⟩ => hS j w h1 h2 h3) hu hd hi, h⟩
end
end Go.Proofs.YtacidmamfkfipaaDoor
namespace Go.Proofs.YtacidmamfkfipaaDoor
theorem qs_mid {P : Program} {l : List Oper} {Q : Exit → Act → World → Prop} {S : Nat → World → Prop} {o : Oper} {r : List (Oper × Option Nat)} {k m : Nat} {a : Act} {w : World} {v : Value} (hw : Region.wanted o (yielded l.toArray a.tmps) = true)
    (hv : ∀ j w', k ≤ j → j ≤ m → S j w' → (execOp a.eval o).run P w' = .ok (.value v) w') (h : wpQs P l Q S r k (a.put o.dst v) w) : wpQs P l Q S ((o, some m) :: r) k a w :=
  ⟨v, .inl ⟨hw, fun w' ⟨j, h1, h2, h3⟩ => hv j w' h1 h2 h3⟩, h⟩
end Go.Proofs.YtacidmamfkfipaaDoor
