/-
  what this claim needs of: StZ1, StZ2, StZ3, StZ4, StZ5, StZ6 (written by cut.py).
-/
import Derived.Test.YtgjjdfhoakailaaGreatBStG
namespace Go.Proofs.YtgjjdfhoakailaaGreat
set_option linter.unusedVariables false

abbrev PV := Int × It
section
variable {β : Type}
def Srt (l : List (Int × β)) : Prop := l.Pairwise fun p q => p.1 ≤ q.1
/-- A permutation that keeps, for each number, its elements in their order. -/
def StEq (l m : List (Int × β)) : Prop := l.Perm m ∧ ∀ x : Int, l.filter (fun p => p.1 == x) = m.filter (fun p => p.1 == x)

theorem StEq.refl (l : List (Int × β)) : StEq l l := ⟨.refl _, fun _ => rfl⟩
theorem StEq.symm {l m : List (Int × β)} (h : StEq l m) : StEq m l := ⟨h.1.symm, fun x => (h.2 x).symm⟩
theorem StEq.trans {l m n : List (Int × β)} (h : StEq l m) (k : StEq m n) : StEq l n := ⟨h.1.trans k.1, fun x => (h.2 x).trans (k.2 x)⟩
theorem StEq.append {l m l' m' : List (Int × β)} (h : StEq l m) (k : StEq l' m') : StEq (l ++ l') (m ++ m') := ⟨h.1.append k.1, fun x => by
  rw [List.filter_append, List.filter_append, h.2 x, k.2 x]⟩
theorem StEq.length {l m : List (Int × β)} (h : StEq l m) : l.length = m.length := h.1.length_eq
theorem StEq.mem {l m : List (Int × β)} (h : StEq l m) (p : Int × β) : p ∈ l ↔ p ∈ m := h.1.mem_iff
theorem StEq.two (p q : Int × β) (h : p.1 ≠ q.1) : StEq [p, q] [q, p] := by
  refine ⟨.swap _ _ _, fun x => ?_⟩
  by_cases hp : p.1 = x <;> by_cases hq : q.1 = x
  · exact absurd (hp.trans hq.symm) h
  · simp [hp, hq]
  · simp [hp, hq]
  · simp [hp, hq]
theorem StEq.swap (l1 l2 : List (Int × β)) (p q : Int × β) (h : p.1 ≠ q.1) : StEq (l1 ++ [p, q] ++ l2) (l1 ++ [q, p] ++ l2) :=
  ((StEq.refl l1).append (StEq.two p q h)).append (StEq.refl l2)
/-- One that is below all of a row goes ahead of it. -/
theorem StEq.ahead (e : Int × β) : ∀ (l : List (Int × β)), (∀ q ∈ l, e.1 < q.1) → StEq (l ++ [e]) (e :: l)
  | [], _ => StEq.refl _
  | q :: l, h => by
    have h1 := StEq.ahead e l (fun p hp => h p (List.mem_cons_of_mem _ hp))
    have h2 : StEq (q :: (l ++ [e])) (q :: e :: l) := StEq.append (l := [q]) (m := [q]) (StEq.refl _) h1
    exact h2.trans (StEq.swap [] l q e (by have := h q (by simp); omega))
/-- A row whose elements are all below those of another goes ahead of it. -/
theorem StEq.rot (l : List (Int × β)) : ∀ (m : List (Int × β)), (∀ p ∈ l, ∀ q ∈ m, q.1 < p.1) → StEq (l ++ m) (m ++ l)
  | [], _ => by simpa using StEq.refl l
  | e :: m, h => by
    have h1 := (StEq.ahead e l (fun p hp => h p hp e (by simp))).append (StEq.refl m)
    have h2 := StEq.append (StEq.refl [e]) (StEq.rot l m (fun p hp q hq => h p hp q (List.mem_cons_of_mem _ hq)))
    have e1 : l ++ [e] ++ m = l ++ e :: m := by simp
    rw [e1] at h1
    exact h1.trans (by simpa using h2)
theorem srt_unique : ∀ {l m : List (Int × β)}, Srt l → Srt m → StEq l m → l = m
  | [], m, _, _, h => by
    have := h.length
    cases m with
    | nil => rfl
    | cons q m => simp at this
  | p :: l, [], _, _, h => by have := h.length; simp at this
  | p :: l, q :: m, hl, hm, h => by
    have hl' := List.pairwise_cons.1 hl
    have hm' := List.pairwise_cons.1 hm
    have h1 : p.1 ≤ q.1 := by
      rcases List.mem_cons.1 ((h.mem q).2 (by simp)) with e | e
      · rw [e]; exact Int.le_refl _
      · exact hl'.1 q e
    have h2 : q.1 ≤ p.1 := by
      rcases List.mem_cons.1 ((h.mem p).1 (by simp)) with e | e
      · rw [e]; exact Int.le_refl _
      · exact hm'.1 p e
    have h3 : p.1 = q.1 := by omega
    have h4 := h.2 p.1
    simp only [List.filter_cons, h3, beq_self_eq_true, if_true, List.cons.injEq] at h4
    obtain ⟨e, _⟩ := h4
    subst e
    refine congrArg (p :: ·) (srt_unique hl'.2 hm'.2 ⟨List.Perm.cons_inv h.1, fun x => ?_⟩)
    have := h.2 x
    by_cases hx : p.1 = x
    · simpa [List.filter_cons, hx] using this
    · have hx' : (p.1 == x) = false := by simpa using hx
      simpa [List.filter_cons, hx'] using this
/-- e behind all that are not above it. -/
def insR : List (Int × β) → Int × β → List (Int × β)
  | [], e => [e]
  | q :: l, e => if e.1 < q.1 then e :: q :: l else q :: insR l e
def stSort (l : List (Int × β)) : List (Int × β) := l.foldl insR []
theorem insR_steq : ∀ (l : List (Int × β)) (e : Int × β), Srt l → StEq (l ++ [e]) (insR l e)
  | [], e, _ => StEq.refl _
  | q :: l, e, h => by
    have h' := List.pairwise_cons.1 h
    unfold insR
    split
    · rename_i hlt
      exact StEq.ahead e (q :: l) (fun p hp => by
        rcases List.mem_cons.1 hp with rfl | hp
        · exact hlt
        · have := h'.1 p hp; omega)
    · exact StEq.append (l := [q]) (m := [q]) (StEq.refl _) (insR_steq l e h'.2)
theorem insR_srt : ∀ (l : List (Int × β)) (e : Int × β), Srt l → Srt (insR l e)
  | [], e, _ => by simp [insR, Srt]
  | q :: l, e, h => by
    have h' := List.pairwise_cons.1 h
    unfold insR
    split
    · rename_i hlt
      refine List.pairwise_cons.2 ⟨fun p hp => ?_, h⟩
      rcases List.mem_cons.1 hp with rfl | hp
      · omega
      · have := h'.1 p hp; omega
    · rename_i hlt
      refine List.pairwise_cons.2 ⟨fun p hp => ?_, insR_srt l e h'.2⟩
      have hp' := ((insR_steq l e h'.2).mem p).2 hp
      rcases List.mem_append.1 hp' with hp' | hp'
      · exact h'.1 p hp'
      · obtain rfl : p = e := by simpa using hp'
        omega
theorem foldl_insR (l : List (Int × β)) : ∀ (acc : List (Int × β)), Srt acc → Srt (l.foldl insR acc) ∧ StEq (acc ++ l) (l.foldl insR acc) := by
  induction l with
  | nil => intro acc h; exact ⟨h, by simpa using StEq.refl acc⟩
  | cons e l ih =>
    intro acc h
    obtain ⟨h1, h2⟩ := ih (insR acc e) (insR_srt acc e h)
    refine ⟨h1, StEq.trans ?_ h2⟩
    have := (insR_steq acc e h).append (StEq.refl l)
    simpa using this
theorem stSort_srt (l : List (Int × β)) : Srt (stSort l) := (foldl_insR l [] (by simp [Srt])).1
theorem stSort_steq (l : List (Int × β)) : StEq l (stSort l) := by simpa [stSort] using (foldl_insR l [] (by simp [Srt])).2
theorem stSort_of {l m : List (Int × β)} (hm : Srt m) (h : StEq l m) : m = stSort l := srt_unique hm (stSort_srt l) (h.symm.trans (stSort_steq l))
end

end Go.Proofs.YtgjjdfhoakailaaGreat
namespace Go.Proofs.YtgjjdfhoakailaaGreat
set_option linter.unusedVariables false

section
variable {β : Type}
/-- Two rows, each cut in two: what lies between the cuts changes its places, and both halves are merged. -/
theorem sym_step {u1 u2 v1 v2 s t : List (Int × β)} (hu : ∀ p ∈ u1, ∀ q ∈ u2, p.1 ≤ q.1) (hv : ∀ p ∈ v1, ∀ q ∈ v2, p.1 ≤ q.1) (hr : ∀ p ∈ u2, ∀ q ∈ v1, q.1 < p.1) (hl : ∀ p ∈ u1, ∀ q ∈ v2, p.1 ≤ q.1)
    (hs : Srt s) (hs' : StEq (u1 ++ v1) s) (ht : Srt t) (ht' : StEq (u2 ++ v2) t) : Srt (s ++ t) ∧ StEq ((u1 ++ u2) ++ (v1 ++ v2)) (s ++ t) := by
  constructor
  · refine List.pairwise_append.2 ⟨hs, ht, fun p hp q hq => ?_⟩
    have hp' := (hs'.mem p).2 hp
    have hq' := (ht'.mem q).2 hq
    rcases List.mem_append.1 hp' with h1 | h1 <;> rcases List.mem_append.1 hq' with h2 | h2
    · exact hu p h1 q h2
    · exact hl p h1 q h2
    · have := hr q h2 p h1; omega
    · exact hv p h1 q h2
  · have h1 := ((StEq.refl u1).append (StEq.rot u2 v1 hr)).append (StEq.refl v2)
    have h2 := hs'.append ht'
    exact (show StEq ((u1 ++ u2) ++ (v1 ++ v2)) ((u1 ++ v1) ++ (u2 ++ v2)) by simpa using h1).trans h2
theorem srt_append {u v : List (Int × β)} (h : Srt (u ++ v)) : Srt u ∧ Srt v ∧ ∀ p ∈ u, ∀ q ∈ v, p.1 ≤ q.1 := List.pairwise_append.1 h

/-- The number that stands at a place. -/
def keyAt (L : List (Int × β)) (i : Nat) : Int := (L[i]?.map (·.1)).getD 0
theorem key_some {L : List (Int × β)} {i : Nat} {p : Int × β} (h : L[i]? = some p) : keyAt L i = p.1 := by simp [keyAt, h]
theorem srt_key {u : List (Int × β)} (h : Srt u) {i j : Nat} (hij : i ≤ j) (hj : j < u.length) : keyAt u i ≤ keyAt u j := by
  rcases Nat.lt_or_ge i j with hlt | hge
  · rw [key_some (List.getElem?_eq_getElem hj), key_some (List.getElem?_eq_getElem (by omega : i < u.length))]
    exact List.pairwise_iff_getElem.1 h i j (by omega) hj hlt
  · obtain rfl : i = j := by omega
    exact Int.le_refl _
theorem key_off (x u r : List (Int × β)) {i : Nat} (h1 : x.length ≤ i) (h2 : i < x.length + u.length) : keyAt (x ++ u ++ r) i = keyAt u (i - x.length) := by
  unfold keyAt
  rw [List.append_assoc, List.getElem?_append_right h1, List.getElem?_append_left (by omega)]
/-- Places of a sorted stretch. -/
theorem key_mono {x u r : List (Int × β)} (h : Srt u) {i j : Nat} (h1 : x.length ≤ i) (hij : i ≤ j) (h2 : j < x.length + u.length) : keyAt (x ++ u ++ r) i ≤ keyAt (x ++ u ++ r) j := by
  rw [key_off x u r h1 (by omega), key_off x u r (by omega) h2]
  exact srt_key h (by omega) (by omega)
theorem mem_key {u : List (Int × β)} {p : Int × β} (h : p ∈ u) : ∃ i, i < u.length ∧ u[i]? = some p := by
  obtain ⟨i, hi, rfl⟩ := List.getElem_of_mem h
  exact ⟨i, hi, List.getElem?_eq_getElem hi⟩
/-- An element of a stretch is one of the row's places. -/
theorem mem_place {x u r : List (Int × β)} {p : Int × β} (h : p ∈ u) : ∃ i, x.length ≤ i ∧ i < x.length + u.length ∧ keyAt (x ++ u ++ r) i = p.1 := by
  obtain ⟨i, hi, he⟩ := mem_key h
  exact ⟨x.length + i, by omega, by omega, by rw [key_off x u r (by omega) (by omega), show x.length + i - x.length = i from by omega, key_some he]⟩

/-- A search by halves stands at st, r: all below st are, none from r on is. -/
def Bs (P : Nat → Bool) (s0 r0 st r : Nat) : Prop := s0 ≤ st ∧ st ≤ r ∧ r ≤ r0 ∧ (∀ c, s0 ≤ c → c < st → P c = true) ∧ (∀ c, r ≤ c → c < r0 → P c = false)
def Mon (P : Nat → Bool) (s0 r0 : Nat) : Prop := ∀ c d, s0 ≤ c → c ≤ d → d < r0 → P d = true → P c = true
theorem bs_start {P : Nat → Bool} {s0 r0 : Nat} (h : s0 ≤ r0) : Bs P s0 r0 s0 r0 := ⟨by omega, h, by omega, fun c h1 h2 => by omega, fun c h1 h2 => by omega⟩
theorem bs_yes {P : Nat → Bool} {s0 r0 st r c : Nat} (h : Bs P s0 r0 st r) (hm : Mon P s0 r0) (h1 : st ≤ c) (h2 : c < r) (hc : P c = true) : Bs P s0 r0 (c + 1) r := by
  obtain ⟨a1, a2, a3, a4, a5⟩ := h
  exact ⟨by omega, by omega, a3, fun d d1 d2 => hm d c d1 (by omega) (by omega) hc, a5⟩
theorem bs_no {P : Nat → Bool} {s0 r0 st r c : Nat} (h : Bs P s0 r0 st r) (hm : Mon P s0 r0) (h1 : st ≤ c) (h2 : c < r) (hc : P c = false) : Bs P s0 r0 st c := by
  obtain ⟨a1, a2, a3, a4, a5⟩ := h
  refine ⟨a1, h1, by omega, a4, fun d d1 d2 => ?_⟩
  rcases hd : P d with _ | _
  · rfl
  · rw [hm c d (by omega) d1 d2 hd] at hc; cases hc

/-- Two places, put one for the other. -/
theorem set2 {α : Type} (l0 l1 l2 : List α) (p q : α) (i j : Nat) (hi : i = l0.length) (hj : j = l0.length + 1 + l1.length) :
    ((l0 ++ p :: (l1 ++ q :: l2)).set i q).set j p = l0 ++ q :: (l1 ++ p :: l2) := by
  subst hi hj
  rw [List.set_append_right _ _ (by omega), Nat.sub_self, List.set_cons_zero, List.set_append_right _ _ (by omega), show l0.length + 1 + l1.length - l0.length = l1.length + 1 from by omega, List.set_cons_succ,
    List.set_append_right _ _ (by omega), Nat.sub_self, List.set_cons_zero]
theorem set2' {α : Type} (l0 l1 l2 : List α) (p q : α) (i j : Nat) (hi : i = l0.length) (hj : j = l0.length + 1 + l1.length) :
    ((l0 ++ p :: (l1 ++ q :: l2)).set j p).set i q = l0 ++ q :: (l1 ++ p :: l2) := by
  rw [List.set_comm _ _ (by omega)]
  exact set2 l0 l1 l2 p q i j hi hj
theorem at1 {α : Type} (l0 r : List α) (p : α) (i : Nat) (hi : i = l0.length) : (l0 ++ p :: r)[i]? = some p := by subst hi; simp
theorem at2 {α : Type} (l0 l1 l2 : List α) (p q : α) (j : Nat) (hj : j = l0.length + 1 + l1.length) : (l0 ++ p :: (l1 ++ q :: l2))[j]? = some q := by
  subst hj
  rw [List.getElem?_append_right (by omega), show l0.length + 1 + l1.length - l0.length = l1.length + 1 from by omega, List.getElem?_cons_succ]
  simp

/-- What the middle search finds: behind the cut at st the numbers to the right are below those to the left, ahead of it they are not. -/
def midP (L : List (Int × β)) (p c : Nat) : Bool := decide (keyAt L c ≤ keyAt L (p - c))
theorem mid_mon {x u v y : List (Int × β)} (hu : Srt u) (hv : Srt v) {p s0 r0 : Nat} (h1 : x.length ≤ s0) (h2 : r0 ≤ x.length + u.length) (h3 : ∀ c, s0 ≤ c → c < r0 → c ≤ p ∧ x.length + u.length ≤ p - c ∧ p - c < x.length + u.length + v.length) :
    Mon (midP (x ++ u ++ (v ++ y)) p) s0 r0 := by
  intro c d hc hcd hd h
  simp only [midP, decide_eq_true_eq] at h ⊢
  have e : x ++ u ++ (v ++ y) = (x ++ u) ++ v ++ y := by simp
  have k1 := key_mono (x := x) (u := u) (r := v ++ y) hu (show x.length ≤ c by omega) hcd (by omega)
  have k2 := key_mono (x := x ++ u) (u := v) (r := y) hv (i := p - d) (j := p - c) (by have := h3 d (by omega) hd; simp; omega) (by omega) (by have := h3 c hc (by omega); simp; omega)
  rw [← e] at k2
  omega
theorem mem_take_place {x u r : List (Int × β)} {p : Int × β} {k : Nat} (h : p ∈ u.take k) : ∃ i, x.length ≤ i ∧ i < x.length + k ∧ i < x.length + u.length ∧ keyAt (x ++ u ++ r) i = p.1 := by
  obtain ⟨i, h1, h2, h3⟩ := mem_place (x := x) (r := u.drop k ++ r) h
  have hl : (u.take k).length = min k u.length := List.length_take
  refine ⟨i, h1, by omega, by omega, ?_⟩
  rw [← h3]
  congr 1
  rw [List.append_assoc, List.append_assoc, ← List.append_assoc (u.take k), List.take_append_drop]
theorem mem_drop_place {x u r : List (Int × β)} {p : Int × β} {k : Nat} (hk : k ≤ u.length) (h : p ∈ u.drop k) : ∃ i, x.length + k ≤ i ∧ i < x.length + u.length ∧ keyAt (x ++ u ++ r) i = p.1 := by
  obtain ⟨i, h1, h2, h3⟩ := mem_place (x := x ++ u.take k) (r := r) h
  have hl : (u.take k).length = min k u.length := List.length_take
  have hd : (u.drop k).length = u.length - k := List.length_drop
  simp only [List.length_append] at h1 h2
  refine ⟨i, by omega, by omega, ?_⟩
  rw [← h3]
  congr 1
  rw [List.append_assoc x (u.take k), List.take_append_drop]
/-- The two cuts of the middle search. -/
theorem mid_cut {x u v y : List (Int × β)} (hu : Srt u) (hv : Srt v) {m mid b s0 r0 st en : Nat} (hm : m = x.length + u.length) (hb : b = m + v.length) (hen : en = mid + m - st) (h1 : x.length ≤ s0) (hr : r0 ≤ m)
    (hs : Bs (midP (x ++ u ++ (v ++ y)) (mid + m - 1)) s0 r0 st st) (hst : st ≤ mid + m) (hem : m ≤ en) (heb : en ≤ b) (c1 : st = s0 → st = x.length ∨ en = b) (c2 : st = r0 → st = m ∨ en = m) :
    (∀ p ∈ u.drop (st - x.length), ∀ q ∈ v.take (en - m), q.1 < p.1) ∧ (∀ p ∈ u.take (st - x.length), ∀ q ∈ v.drop (en - m), p.1 ≤ q.1) := by
  obtain ⟨a1, a2, a3, a4, a5⟩ := hs
  have e : x ++ u ++ (v ++ y) = (x ++ u) ++ v ++ y := by simp
  constructor
  · intro p hp q hq
    obtain ⟨i, i1, i2, i3⟩ := mem_drop_place (x := x) (r := v ++ y) (by omega) hp
    obtain ⟨j, j1, j2, j3, j4⟩ := mem_take_place (x := x ++ u) (r := y) hq
    simp only [List.length_append] at j1 j2 j3
    rcases Nat.lt_or_ge st r0 with hlt | hge
    · have h := a5 st (Nat.le_refl _) hlt
      simp only [midP, decide_eq_false_iff_not] at h
      have k1 := key_mono (x := x) (u := u) (r := v ++ y) hu (show x.length ≤ st by omega) (show st ≤ i by omega) (by omega)
      have k2 := key_mono (x := x ++ u) (u := v) (r := y) hv (i := j) (j := mid + m - 1 - st) (by simp; omega) (by omega) (by simp; omega)
      rw [e] at h k1 i3
      omega
    · rcases c2 (by omega) with h | h
      · omega
      · omega
  · intro p hp q hq
    obtain ⟨i, i1, i2, i3, i4⟩ := mem_take_place (x := x) (r := v ++ y) hp
    obtain ⟨j, j1, j2, j3⟩ := mem_drop_place (x := x ++ u) (r := y) (by omega) hq
    simp only [List.length_append] at j1 j2
    rcases Nat.lt_or_ge s0 st with hlt | hge
    · have h := a4 (st - 1) (by omega) (by omega)
      simp only [midP, decide_eq_true_eq] at h
      have k1 := key_mono (x := x) (u := u) (r := v ++ y) hu (show x.length ≤ i by omega) (show i ≤ st - 1 by omega) (by omega)
      have k2 := key_mono (x := x ++ u) (u := v) (r := y) hv (i := mid + m - 1 - (st - 1)) (j := j) (by simp; omega) (by omega) (by simp; omega)
      rw [e] at h k1 i4
      omega
    · rcases c1 (by omega) with h | h
      · omega
      · omega
/-- One element into a sorted row behind it. -/
theorem one_ahead {e : Int × β} {v : List (Int × β)} (hv : Srt v) {k : Nat} (h1 : ∀ p ∈ v.take k, p.1 < e.1) (h2 : ∀ p ∈ v.drop k, e.1 ≤ p.1) : Srt (v.take k ++ e :: v.drop k) ∧ StEq (e :: v) (v.take k ++ e :: v.drop k) := by
  have hv' : Srt (v.take k ++ v.drop k) := by rw [List.take_append_drop]; exact hv
  obtain ⟨s1, s2, s3⟩ := srt_append hv'
  refine ⟨List.pairwise_append.2 ⟨s1, List.pairwise_cons.2 ⟨h2, s2⟩, fun p hp q hq => ?_⟩, ?_⟩
  · rcases List.mem_cons.1 hq with rfl | hq
    · have := h1 p hp; omega
    · exact s3 p hp q hq
  · have h := (StEq.rot [e] (v.take k) (fun p hp q hq => by obtain rfl : p = e := by simpa using hp
                                                            exact h1 q hq)).append (StEq.refl (v.drop k))
    have e1 : [e] ++ v.take k ++ v.drop k = e :: v := by rw [List.append_assoc, List.take_append_drop]; rfl
    rw [e1] at h
    simpa using h
/-- One element into a sorted row ahead of it. -/
theorem one_behind {e : Int × β} {u : List (Int × β)} (hu : Srt u) {k : Nat} (h1 : ∀ p ∈ u.take k, p.1 ≤ e.1) (h2 : ∀ p ∈ u.drop k, e.1 < p.1) : Srt (u.take k ++ e :: u.drop k) ∧ StEq (u ++ [e]) (u.take k ++ e :: u.drop k) := by
  have hu' : Srt (u.take k ++ u.drop k) := by rw [List.take_append_drop]; exact hu
  obtain ⟨s1, s2, s3⟩ := srt_append hu'
  refine ⟨List.pairwise_append.2 ⟨s1, List.pairwise_cons.2 ⟨fun p hp => by have := h2 p hp; omega, s2⟩, fun p hp q hq => ?_⟩, ?_⟩
  · rcases List.mem_cons.1 hq with rfl | hq
    · exact h1 p hp
    · exact s3 p hp q hq
  · have h := (StEq.refl (u.take k)).append (StEq.ahead e (u.drop k) h2)
    rw [← List.append_assoc, List.take_append_drop] at h
    exact h
end
end Go.Proofs.YtgjjdfhoakailaaGreat
namespace Go.Proofs.YtgjjdfhoakailaaGreat
open Go.RowKit Go.Maps Go.Sort Go.Shelf
set_option linter.unusedVariables false

def Small (x : Int) : Prop := -2305843009213693952 ≤ x ∧ x ≤ 2305843009213693952
/-- An item whose snapshot's number is the key, turned round. -/
def itP (p : PV) : It := ⟨p.2.kind, p.2.key, p.2.pl, -p.1, p.2.unit, p.2.sl⟩
theorem itP_len (p : PV) : (itC (itP p)).length = 73 := itC_len _
set_option maxRecDepth 100000 in
theorem cmp_any (p q : PV) (w : World) (hx : Small p.1) (hy : Small q.1) :
    Calls Tryz.prog 78 #[.agg (itC (itP p)).toArray, .agg (itC (itP q)).toArray] w fun e w' => e = .returned (.int .i64 (p.1 - q.1)) ∧ Below w.heap.size w w' := by
  obtain ⟨h1, h2⟩ := hx
  obtain ⟨h3, h4⟩ := hy
  obtain ⟨a, ha⟩ : ∃ a, a = (itP p).snap := ⟨_, rfl⟩
  obtain ⟨b, hb⟩ : ∃ b, b = (itP q).snap := ⟨_, rfl⟩
  have ea : a = -p.1 := ha
  have eb : b = -q.1 := hb
  have HE := Lib.hid (show b - a = p.1 - q.1 by omega)
  have g1 : -2305843009213693952 ≤ a ∧ a ≤ 2305843009213693952 := by omega
  have g2 : -2305843009213693952 ≤ b ∧ b ≤ 2305843009213693952 := by omega
  have HA := Lib.hid ha
  have HB := Lib.hid hb
  clear ha hb ea eb h1 h2 h3 h4
  go_enter Tryz.func78, Tryz.ntmps78
  go_upto_region 1 with (first
    | ((with_reducible show wpList _ _ _ (_ :: _) _ _); refine wpl_box rfl 56 (.tmp 0) (by rfl) (itC (itP p)).toArray (by rfl) ?_; intro w1 hk hg hz; have K1 := Lib.hid hk; have L1 := Lib.hid (bl_n (Below.refl _ w) hg); clear hk hg hz; simp only [Act.put, List.setIfInBounds_toArray, List.set_cons_zero, List.set_cons_succ])
    | ((with_reducible show wpList _ _ _ (_ :: _) _ _); refine wpl_box rfl 56 (.tmp 1) (by rfl) (itC (itP q)).toArray (by rfl) ?_; intro w2 hk hg hz; have K2 := Lib.hid hk; have L2 := Lib.hid (bl_n (Below.refl _ w1) hg); clear hk hg hz; simp only [Act.put, List.setIfInBounds_toArray, List.set_cons_zero, List.set_cons_succ]))
  have a0 := itC_cell (K1.out.below L2.out K1.out.lt) (it_snap _)
  have b0 := itC_cell K2.out (it_snap _)
  rw [← HA.out] at a0
  rw [← HB.out] at b0
  go_wp2_with fail
  go_ret
  refine ⟨?_, below_chain L1.out L2.out⟩
  rw [← HE.out]
  rfl
/-- The row as the sort has it. -/
structure PRow (w : World) (g n cap : Nat) (ps : List PV) : Prop where
  own : w.ownsRow 0 56 73 (.slice (some ⟨g, 0, none⟩) n cap) n (ps.flatMap fun p => itC (itP p))
theorem PRow.len {w : World} {g n cap : Nat} {ps : List PV} (h : PRow w g n cap ps) : ps.length = n := by
  have := h.own.1
  rw [flat_len (enc := fun p => itC (itP p)) itP_len] at this; omega
theorem PRow.one {w : World} {g n cap : Nat} {ps : List PV} (h : PRow w g n cap ps) : ∀ p ∈ ps, True := fun _ _ => trivial
theorem PRow.at_ {w : World} {g n cap : Nat} {ps : List PV} (h : PRow w g n cap ps) {i : Nat} {p : PV} (hi : ps[i]? = some p) : w.rangeAt g (i * 73) (itC (itP p)) := by
  obtain ⟨hlt, he⟩ := List.getElem?_eq_some_iff.1 hi
  obtain ⟨b, off, hA, hr⟩ := src_part (enc := fun p => itC (itP p)) itP_len (Src.of_own h.own) h.len hlt
  injection hA with hA
  injection hA with e1 e2
  subst e1 e2
  rw [Nat.zero_add, he] at hr
  exact hr
theorem PRow.free {w : World} {g n cap : Nat} {ps : List PV} (h : PRow w g n cap ps) (j : Nat) : w.frozen? ⟨g, j, none⟩ = false := h.own.frozenAt j
theorem PRow.grown {w w' : World} {g n cap : Nat} {ps : List PV} (h : PRow w g n cap ps) (hb : Below w.heap.size w w') : PRow w' g n cap ps := ⟨own_belowR h.own hb⟩
/-- An element is stored. -/
theorem prow_store {ops : Array Oper} {rest : List Oper} {op : Oper} {a : Act} {Q : Exit → Act → World → Prop} {w : World} (hgd : op.guard = none) (x y : Operand) (ho : op.op = .store 56 x y) {g n cap : Nat} {ps : List PV} (i : Nat) (p : PV) (off : Nat) (hoff : off = i * 73)
    (hx : a.eval x = .pointer (some ⟨g, off, none⟩)) (hy : a.eval y = .agg (itC (itP p)).toArray) (h : PRow w g n cap ps) (hi : i < ps.length) (hp : True)
    (hk : ∀ w1, PRow w1 g n cap (ps.set i p) → w.grownBy w1 (some g) → wpList Tryz.prog ops Q rest (a.put op.dst undef) w1) : wpList Tryz.prog ops Q (op :: rest) a w :=
  wpl_store_own (enc := fun p => itC (itP p)) itP_len (fun p => itC_one _) hgd 56 x y ho 0 g i n cap off 56 ps p hx hoff hy h.own h.len (by have := h.len; omega) it_i73 (fun w1 h1 h2 => hk w1 ⟨h1⟩ h2)
theorem PRow.drew {w : World} {g n cap : Nat} {ps : List PV} (h : PRow w g n cap ps) : PRow w.drew g n cap ps := ⟨h.own.drew⟩
theorem grown_below {w w' w'' : World} {row : Option Nat} (h : w.grownBy w' row) (hb : Below w'.heap.size w' w'') : w.grownBy w'' row :=
  ⟨hb.os.trans h.os, hb.tape.trans h.tape, hb.output.trans h.output, Nat.le_trans h.size hb.size, fun k hk hn => (hb.block k (Nat.lt_of_lt_of_le hk h.size)).trans (h.block k hk hn)⟩
theorem grown_drew {w w' : World} {row : Option Nat} (h : w.grownBy w' row) : w.grownBy w'.drew row := ⟨h.os, h.tape, h.output, h.size, h.block⟩

/-- The relation of the outer loop. -/
def I1 (x s y : List PV) (a : Nat) (w : World) (g n cap : Nat) (iv : Value) (wr : World) : Prop :=
  ∃ (m i : Nat) (t : List PV), 1 ≤ m ∧ m ≤ s.length ∧ iv = .int .i64 i ∧ i = a + m ∧ Srt t ∧ StEq (s.take m) t ∧ PRow wr g n cap (x ++ (t ++ s.drop m) ++ y) ∧ w.grownBy wr (some g)
/-- The relation of the inner loop. t: what is sorted; e: the one that sinks. -/
def I2 (x r : List PV) (t : List PV) (e : PV) (a : Nat) (w : World) (g n cap : Nat) (jv : Value) (wr : World) : Prop :=
  ∃ (l1 l2 : List PV) (j : Nat), t = l1 ++ l2 ∧ jv = .int .i64 j ∧ j = a + l1.length ∧ (∀ q ∈ l2, e.1 < q.1) ∧ PRow wr g n cap (x ++ (l1 ++ e :: l2) ++ r) ∧ w.grownBy wr (some g)

def InsPost (x s y : List PV) (w : World) (g n cap : Nat) (e : Ending) (w' : World) : Prop :=
  e = .returned (.tuple #[]) ∧ ∃ s', Srt s' ∧ StEq s s' ∧ PRow w' g n cap (x ++ s' ++ y) ∧ w.grownBy w' (some g)

/-- The inner loop ends: what was sorted, and e in its place. -/
theorem ins_done {x s y : List PV} {a : Nat} {w : World} {g n cap m i : Nat} {t : List PV} {e : PV} {wr : World} {l1 l2 : List PV} (hm : m < s.length) (he : s[m]? = some e) (hi : i = a + m) (hts : Srt t) (hte : StEq (s.take m) t) (hl : t = l1 ++ l2)
    (hq : ∀ q ∈ l2, e.1 < q.1) (hl1 : ∀ q ∈ l1, q.1 ≤ e.1) (hr : PRow wr g n cap (x ++ (l1 ++ e :: l2) ++ (s.drop (m + 1) ++ y))) (hg : w.grownBy wr (some g)) :
    I1 x s y a w g n cap (.int .i64 ((i : Int) + 1)) wr := by
  subst hl
  have hts' := List.pairwise_append.1 hts
  refine ⟨m + 1, i + 1, l1 ++ e :: l2, by omega, by omega, by simp, by omega, ?_, ?_, by simpa using hr, hg⟩
  · refine List.pairwise_append.2 ⟨hts'.1, List.pairwise_cons.2 ⟨fun q hq' => by have := hq q hq'; omega, hts'.2.1⟩, fun p hp q hq' => ?_⟩
    rcases List.mem_cons.1 hq' with rfl | hq'
    · exact hl1 p hp
    · exact hts'.2.2 p hp q hq'
  · have h1 : s.take (m + 1) = s.take m ++ [e] := by
      rw [List.take_succ_eq_append_getElem hm]
      congr 2
      have := List.getElem?_eq_getElem hm
      rw [he] at this
      injection this with this; exact this.symm
    rw [h1]
    have h2 := (hte.append (StEq.refl [e]))
    have h3 := (StEq.refl l1).append (StEq.ahead e l2 hq)
    exact h2.trans (by simpa using h3)

theorem pv_at (x l1 l2 r : List PV) (e : PV) (j : Nat) (hj : j = x.length + l1.length) : (x ++ (l1 ++ e :: l2) ++ r)[j]? = some e := by
  subst hj
  simp

theorem swap_set (x l0 l2 r : List PV) (q e : PV) (j : Nat) (hj : j - 1 = x.length + l0.length) (h1 : 1 ≤ j) :
    ((x ++ (l0 ++ q :: e :: l2) ++ r).set j q).set (j - 1) e = x ++ (l0 ++ e :: q :: l2) ++ r := by
  have e1 : x ++ (l0 ++ q :: e :: l2) ++ r = (x ++ l0) ++ q :: e :: (l2 ++ r) := by simp
  have e2 : x ++ (l0 ++ e :: q :: l2) ++ r = (x ++ l0) ++ e :: q :: (l2 ++ r) := by simp
  have hl : (x ++ l0).length = j - 1 := by simp; omega
  rw [e1, e2, List.set_append_right _ _ (by omega), hl, show j - (j - 1) = 1 from by omega]
  rw [List.set_append_right _ _ (by omega), hl, Nat.sub_self]
  rfl

set_option maxHeartbeats 1600000 in
theorem ins_any (x s y : List PV) (w : World) (g n cap a b : Nat) (hrow : PRow w g n cap (x ++ s ++ y)) (ha : a = x.length) (hb : b = a + s.length) (hn : n ≤ 35184372088832) (hsm : ∀ p ∈ s, Small p.1) :
    Calls Tryz.prog 119 #[.slice (some ⟨g, 0, none⟩) n cap, .int .i64 a, .int .i64 b, .func (.func 78) #[] #[]] w (InsPost x s y w g n cap) := by
  have hlen : n = x.length + s.length + y.length := by
    have := hrow.len
    simp at this; omega
  have HLen := Lib.hid hlen
  have HA := Lib.hid ha
  have HB := Lib.hid hb
  have HRow := Lib.hid hrow
  have HSm := Lib.hid hsm
  have hab : a + s.length ≤ n := by omega
  have hb1 : b ≤ n := by omega
  have hb2 : a ≤ b := by omega
  clear hlen hrow hsm ha hb
  by_cases hs0 : s.length = 0
  · have hlt : ¬ ((a : Int) + 1 < b) := by have := HB.out; omega
    have HS : Hid (s = []) := List.eq_nil_of_length_eq_zero hs0
    clear hs0
    go_enter Tryz.func119, Tryz.ntmps119
    go_wp2_with fail
    go_rounds 1
    go_end0
    exact ⟨rfl, [], by simp [Srt], by rw [HS.out]; exact StEq.refl _, by rw [← HS.out]; exact HRow.out, World.grownBy.refl _ _⟩
  go_enter Tryz.func119, Tryz.ntmps119
  go_wp2_with fail
  go_loopw [8] (I1 x s y a w g n cap) (fun i _ => b - (intOf i).toNat)
  case atStart =>
    refine ⟨1, a + 1, s.take 1, by omega, by omega, by go_num, rfl, ?_, StEq.refl _, ?_, World.grownBy.refl _ _⟩
    · have : (s.take 1).length ≤ 1 := List.length_take_le _ _
      match hh : s.take 1, this with
      | [], _ => simp [Srt]
      | [p], _ => simp [Srt]
    · rw [List.take_append_drop]; exact HRow.out
  case round =>
    obtain ⟨m, i, t, hm1, hm2, rfl, hi, hts, hte, hrw, hgr⟩ := hrel
    have HI := Lib.hid hi
    have HTS := Lib.hid hts
    have HTE := Lib.hid hte
    have HRW := Lib.hid hrw
    have HGR := Lib.hid hgr
    clear hts hte hrw hgr hi
    have him := HI.out
    have hib := HB.out
    by_cases hlt : m < s.length
    · have hltb : (i : Int) < b := by omega
      obtain ⟨e, he⟩ : ∃ e, s[m]? = some e := ⟨_, List.getElem?_eq_getElem hlt⟩
      have HE := Lib.hid he
      clear he him hib
      go_wp2_with fail
      go_loopw [9] (I2 x (s.drop (m + 1) ++ y) t e a w g n cap) (fun j _ => (intOf j).toNat)
      case atStart =>
        refine ⟨t, [], i, by simp, rfl, ?_, by simp, ?_, HGR.out⟩
        · have h1 := HTE.out.length
          have h2 := HI.out
          simp at h1; omega
        · have h1 : s.drop m = e :: s.drop (m + 1) := by
            have h2 := HE.out
            rw [List.getElem?_eq_getElem hlt] at h2
            injection h2 with h2
            rw [List.drop_eq_getElem_cons hlt, h2]
          have := HRW.out
          rw [h1] at this
          simpa using this
      case round =>
        rename_i wr0 _ _
        obtain ⟨l1, l2, j, hl, rfl, hj, hq, hrw, hgr⟩ := hrel
        have HL := Lib.hid hl
        have HJ := Lib.hid hj
        have HQ := Lib.hid hq
        have HRW2 := Lib.hid hrw
        have HGR2 := Lib.hid hgr
        have hjn : j < n := by
          have h1 := hrw.len
          have h2 := HA.out
          simp at h1; omega
        clear hl hj hq hrw hgr
        have hjn' : (j : Int) < n := by omega
        by_cases hja : a < j
        · have hd : decide ((a : Int) < j) = true := by simp; omega
          have hj1 : (1 : Int) ≤ j := by omega
          obtain ⟨l0, q, hl0⟩ : ∃ l0 q, l1 = l0 ++ [q] := by
            have h1 : l1 ≠ [] := by
              rintro rfl
              have := HJ.out
              simp at this; omega
            exact ⟨l1.dropLast, l1.getLast h1, (List.dropLast_concat_getLast h1).symm⟩
          have HL0 := Lib.hid hl0
          have c1 := Lib.hid (HRW2.out.at_ (pv_at x l1 l2 (s.drop (m + 1) ++ y) e j (by have := HJ.out; have := HA.out; omega)))
          have hj0 : j - 1 = x.length + l0.length := by
            have h1 := HJ.out
            have h2 := HA.out
            rw [hl0] at h1
            simp at h1; omega
          have hrow0 : PRow wr g n cap (x ++ (l0 ++ q :: e :: l2) ++ (s.drop (m + 1) ++ y)) := by
            have := HRW2.out
            rw [hl0] at this
            simpa using this
          have d1 := Lib.hid (hrow0.at_ (pv_at x l0 (e :: l2) (s.drop (m + 1) ++ y) q (j - 1) hj0))
          have HR0 := Lib.hid hrow0
          have HJ0 := Lib.hid hj0
          have hse : Small e.1 := HSm.out e (List.mem_of_getElem? HE.out)
          have hsq : Small q.1 := by
            have h1 : q ∈ t := by rw [HL.out, HL0.out]; simp
            have h2 := (HTE.out.mem q).2 h1
            exact HSm.out q (List.mem_of_mem_take h2)
          clear hl0 hrow0 hj0
          have HSE := Lib.hid hse
          have HSQ := Lib.hid hsq
          have hse' := hse
          have hsq' := hsq
          unfold Small at hse' hsq'
          clear hse hsq
          by_cases hcmp : e.1 < q.1
          · have hdc : decide (e.1 - q.1 < 0) = true := by simp; omega
            go_wp2_with fail
            refine wp_region_qs (fun k w' => k = 0 → w'.rangeAt g (j * 73) (itC (itP e)) ∧ w'.rangeAt g ((j - 1) * 73) (itC (itP q)))
              [(0, some 1), (1, some 1), (2, some 1), (3, some 0), (4, some 0), (5, some 1), (6, some 1), (7, some 1), (8, some 0), (9, some 1), (10, some 1), (11, some 1), (12, some 1), (13, some 0), (14, none), (15, some 1), (16, some 1)] (by kernel_rfl) (by kernel_rfl) (by kernel_rfl) (by kernel_rfl) (by kernel_rfl) (fun _ _ _ _ _ h => h) (fun _ => ⟨c1.out, d1.out⟩) ?_
            simp only [List.map_cons, List.map_nil, List.getD_cons_succ, List.getD_cons_zero]
            (repeat (first | ((first | (refine qs_row (by rfl) 56 _ (by rfl) g (j * 73) (by rfl) (itC (itP e)) _ (fun j w2 h1 h2 h => (h (by omega)).1) Tryz.underlying56 rfl (itC_info _) ?_) | (refine qs_row (by rfl) 56 _ (by rfl) g ((j - 1) * 73) (by rfl) (itC (itP q)) _ (fun j w2 h1 h2 h => (h (by omega)).2) Tryz.underlying56 rfl (itC_info _) ?_)); simp only [Act.put, List.setIfInBounds_toArray, List.set_cons_zero, List.set_cons_succ]) | (refine qs_now (v := ?_) (by rfl) ?_ ?_; rotate_left 1; (· (intro w' hS; go_simp; (try (simp only [↓IntWalk.iteOmega]; go_simp)); (try simp (disch := omega) only [IntWalk.i64_in]); try with_reducible rfl)); simp only [Act.put, List.setIfInBounds_toArray, List.set_cons_zero, List.set_cons_succ]) | (refine qs_run (v := ?_) (by rfl) ?_ ?_; rotate_left 1; (· (intro j w' hS; go_simp; (try (simp only [↓IntWalk.iteOmega]; go_simp)); (try simp (disch := omega) only [IntWalk.i64_in]); try with_reducible rfl)); simp only [Act.put, List.setIfInBounds_toArray, List.set_cons_zero, List.set_cons_succ]) | (refine qs_mid (v := ?_) (by rfl) ?_ ?_; rotate_left 1; (· (intro j w' hj1 hj2 hS; go_simp; (try (simp only [↓IntWalk.iteOmega]; go_simp)); (try simp (disch := omega) only [IntWalk.i64_in]); try with_reducible rfl)); simp only [Act.put, List.setIfInBounds_toArray, List.set_cons_zero, List.set_cons_succ]) | (refine qs_skip (by rfl) ?_; simp only [Act.put, List.setIfInBounds_toArray, List.set_cons_zero, List.set_cons_succ])))
            refine qs_act ?_
            go_wp2_with (go_at_call 78; refine (cmp_any e q _ HSE.out HSQ.out).mono ?_; rintro ev w1 ⟨rfl, hb1⟩)
            refine ⟨fun h => h.elim, ?_⟩
            (repeat (first | ((first | (refine qs_row (by rfl) 56 _ (by rfl) g (j * 73) (by rfl) (itC (itP e)) _ (fun j w2 h1 h2 h => (h (by omega)).1) Tryz.underlying56 rfl (itC_info _) ?_) | (refine qs_row (by rfl) 56 _ (by rfl) g ((j - 1) * 73) (by rfl) (itC (itP q)) _ (fun j w2 h1 h2 h => (h (by omega)).2) Tryz.underlying56 rfl (itC_info _) ?_)); simp only [Act.put, List.setIfInBounds_toArray, List.set_cons_zero, List.set_cons_succ]) | (refine qs_now (v := ?_) (by rfl) ?_ ?_; rotate_left 1; (· (intro w' hS; go_simp; (try (simp only [↓IntWalk.iteOmega]; go_simp)); (try simp (disch := omega) only [IntWalk.i64_in]); try with_reducible rfl)); simp only [Act.put, List.setIfInBounds_toArray, List.set_cons_zero, List.set_cons_succ]) | (refine qs_run (v := ?_) (by rfl) ?_ ?_; rotate_left 1; (· (intro j w' hS; go_simp; (try (simp only [↓IntWalk.iteOmega]; go_simp)); (try simp (disch := omega) only [IntWalk.i64_in]); try with_reducible rfl)); simp only [Act.put, List.setIfInBounds_toArray, List.set_cons_zero, List.set_cons_succ]) | (refine qs_mid (v := ?_) (by rfl) ?_ ?_; rotate_left 1; (· (intro j w' hj1 hj2 hS; go_simp; (try (simp only [↓IntWalk.iteOmega]; go_simp)); (try simp (disch := omega) only [IntWalk.i64_in]); try with_reducible rfl)); simp only [Act.put, List.setIfInBounds_toArray, List.set_cons_zero, List.set_cons_succ]) | (refine qs_skip (by rfl) ?_; simp only [Act.put, List.setIfInBounds_toArray, List.set_cons_zero, List.set_cons_succ])))
            refine qs_nil ?_
            clear c1 d1
            have HR1 := Lib.hid (HR0.out.drew.grown hb1)
            have HG1 := Lib.hid (grown_below (grown_drew HGR2.out) hb1)
            clear hb1
            go_wp2_with fail
            have d1 := Lib.hid (HR1.out.at_ (pv_at x l0 (e :: l2) (s.drop (m + 1) ++ y) q (j - 1) HJ0.out))
            have hr1' : PRow w1 g n cap (x ++ ((l0 ++ [q]) ++ e :: l2) ++ (s.drop (m + 1) ++ y)) := by simpa using HR1.out
            have c1 := Lib.hid (hr1'.at_ (pv_at x (l0 ++ [q]) l2 (s.drop (m + 1) ++ y) e j (by have := HJ0.out; simp; omega)))
            clear hr1'
            have f1 := HR1.out.free (j * 73)
            have f2 := HR1.out.free (j * 73 + 1)
            have f3 := HR1.out.free ((j - 1) * 73)
            have f4 := HR1.out.free ((j - 1) * 73 + 1)
            refine wp_region_qs (fun k w' => k = 0 → w'.rangeAt g (j * 73) (itC (itP e)) ∧ w'.rangeAt g ((j - 1) * 73) (itC (itP q)))
              [(0, some 0), (1, some 0), (2, some 1), (3, some 1), (4, some 1), (5, some 0), (6, some 0), (7, some 0), (8, some 0), (9, some 0), (10, some 1), (11, some 1), (12, some 1), (13, some 0), (14, some 0), (15, none), (16, some 1), (17, none)] (by kernel_rfl) (by kernel_rfl) (by kernel_rfl) (by kernel_rfl) (by kernel_rfl) (fun _ _ _ _ _ h => h) (fun _ => ⟨c1.out, d1.out⟩) ?_
            simp only [List.map_cons, List.map_nil, List.getD_cons_succ, List.getD_cons_zero]
            (repeat (first | ((first | (refine qs_row (by rfl) 56 _ (by rfl) g (j * 73) (by rfl) (itC (itP e)) _ (fun j w2 h1 h2 h => (h (by omega)).1) Tryz.underlying56 rfl (itC_info _) ?_) | (refine qs_row (by rfl) 56 _ (by rfl) g ((j - 1) * 73) (by rfl) (itC (itP q)) _ (fun j w2 h1 h2 h => (h (by omega)).2) Tryz.underlying56 rfl (itC_info _) ?_)); simp only [Act.put, List.setIfInBounds_toArray, List.set_cons_zero, List.set_cons_succ]) | (refine qs_now (v := ?_) (by rfl) ?_ ?_; rotate_left 1; (· (intro w' hS; go_simp; (try (simp only [↓IntWalk.iteOmega]; go_simp)); (try simp (disch := omega) only [IntWalk.i64_in]); try with_reducible rfl)); simp only [Act.put, List.setIfInBounds_toArray, List.set_cons_zero, List.set_cons_succ]) | (refine qs_run (v := ?_) (by rfl) ?_ ?_; rotate_left 1; (· (intro j w' hS; go_simp; (try (simp only [↓IntWalk.iteOmega]; go_simp)); (try simp (disch := omega) only [IntWalk.i64_in]); try with_reducible rfl)); simp only [Act.put, List.setIfInBounds_toArray, List.set_cons_zero, List.set_cons_succ]) | (refine qs_mid (v := ?_) (by rfl) ?_ ?_; rotate_left 1; (· (intro j w' hj1 hj2 hS; go_simp; (try (simp only [↓IntWalk.iteOmega]; go_simp)); (try simp (disch := omega) only [IntWalk.i64_in]); try with_reducible rfl)); simp only [Act.put, List.setIfInBounds_toArray, List.set_cons_zero, List.set_cons_succ]) | (refine qs_skip (by rfl) ?_; simp only [Act.put, List.setIfInBounds_toArray, List.set_cons_zero, List.set_cons_succ])))
            have hin : ∀ k, k ≤ j → k < (x ++ (l0 ++ q :: e :: l2) ++ (s.drop (m + 1) ++ y)).length := fun k hk => by rw [HR1.out.len]; omega
            have hone := HR1.out.one
            have HIN := Lib.hid hin
            have HONE := Lib.hid hone
            clear hin hone c1 d1 f1 f2 f3 f4
            refine qs_act ?_
            refine prow_store rfl (.tmp 51) (.tmp 46) rfl j q _ rfl rfl rfl HR1.out.drew (HIN.out j (Nat.le_refl _)) (HONE.out q (by simp)) ?_
            intro w2 hr2 hg2
            have HR2 := Lib.hid hr2
            have HG2 := Lib.hid ((grown_drew HG1.out).trans hg2)
            clear hr2 hg2
            refine wpList_nil ?_
            refine ⟨fun h => (by cases h), ?_⟩
            (repeat (first | ((first | (refine qs_row (by rfl) 56 _ (by rfl) g (j * 73) (by rfl) (itC (itP e)) _ (fun j w2 h1 h2 h => (h (by omega)).1) Tryz.underlying56 rfl (itC_info _) ?_) | (refine qs_row (by rfl) 56 _ (by rfl) g ((j - 1) * 73) (by rfl) (itC (itP q)) _ (fun j w2 h1 h2 h => (h (by omega)).2) Tryz.underlying56 rfl (itC_info _) ?_)); simp only [Act.put, List.setIfInBounds_toArray, List.set_cons_zero, List.set_cons_succ]) | (refine qs_now (v := ?_) (by rfl) ?_ ?_; rotate_left 1; (· (intro w' hS; go_simp; (try (simp only [↓IntWalk.iteOmega]; go_simp)); (try simp (disch := omega) only [IntWalk.i64_in]); try with_reducible rfl)); simp only [Act.put, List.setIfInBounds_toArray, List.set_cons_zero, List.set_cons_succ]) | (refine qs_run (v := ?_) (by rfl) ?_ ?_; rotate_left 1; (· (intro j w' hS; go_simp; (try (simp only [↓IntWalk.iteOmega]; go_simp)); (try simp (disch := omega) only [IntWalk.i64_in]); try with_reducible rfl)); simp only [Act.put, List.setIfInBounds_toArray, List.set_cons_zero, List.set_cons_succ]) | (refine qs_mid (v := ?_) (by rfl) ?_ ?_; rotate_left 1; (· (intro j w' hj1 hj2 hS; go_simp; (try (simp only [↓IntWalk.iteOmega]; go_simp)); (try simp (disch := omega) only [IntWalk.i64_in]); try with_reducible rfl)); simp only [Act.put, List.setIfInBounds_toArray, List.set_cons_zero, List.set_cons_succ]) | (refine qs_skip (by rfl) ?_; simp only [Act.put, List.setIfInBounds_toArray, List.set_cons_zero, List.set_cons_succ])))
            refine qs_act ?_
            refine prow_store rfl (.tmp 52) (.tmp 50) rfl (j - 1) e _ rfl rfl rfl HR2.out (by rw [List.length_set]; exact HIN.out (j - 1) (by omega)) (HONE.out e (by simp)) ?_
            intro w3 hr3 hg3
            have HR3 := Lib.hid hr3
            have HG3 := Lib.hid (HG2.out.trans hg3)
            clear hr3 hg3
            refine wpList_nil ?_
            refine ⟨fun h => (by cases h), ?_⟩
            refine qs_nil ?_
            go_wp2_with fail
            go_roundw
            case rel =>
              refine ⟨l0, q :: l2, j - 1, by rw [HL.out, HL0.out]; simp, by go_num, by rw [HJ0.out, HA.out], fun p hp => ?_, ?_, HG3.out⟩
              · rcases List.mem_cons.1 hp with rfl | hp
                · exact hcmp
                · exact HQ.out p hp
              · have := HR3.out
                rw [swap_set x l0 l2 _ q e j HJ0.out (by omega)] at this
                exact this
            case measure => simp [intOf]; omega
          · have hdc : decide (e.1 - q.1 < 0) = false := by simp; omega
            go_wp2_with fail
            refine wp_region_qs (fun k w' => k = 0 → w'.rangeAt g (j * 73) (itC (itP e)) ∧ w'.rangeAt g ((j - 1) * 73) (itC (itP q)))
              [(0, some 1), (1, some 1), (2, some 1), (3, some 0), (4, some 0), (5, some 1), (6, some 1), (7, some 1), (8, some 0), (9, some 1), (10, some 1), (11, some 1), (12, some 1), (13, some 0), (14, none), (15, some 1), (16, some 1)] (by kernel_rfl) (by kernel_rfl) (by kernel_rfl) (by kernel_rfl) (by kernel_rfl) (fun _ _ _ _ _ h => h) (fun _ => ⟨c1.out, d1.out⟩) ?_
            simp only [List.map_cons, List.map_nil, List.getD_cons_succ, List.getD_cons_zero]
            (repeat (first | ((first | (refine qs_row (by rfl) 56 _ (by rfl) g (j * 73) (by rfl) (itC (itP e)) _ (fun j w2 h1 h2 h => (h (by omega)).1) Tryz.underlying56 rfl (itC_info _) ?_) | (refine qs_row (by rfl) 56 _ (by rfl) g ((j - 1) * 73) (by rfl) (itC (itP q)) _ (fun j w2 h1 h2 h => (h (by omega)).2) Tryz.underlying56 rfl (itC_info _) ?_)); simp only [Act.put, List.setIfInBounds_toArray, List.set_cons_zero, List.set_cons_succ]) | (refine qs_now (v := ?_) (by rfl) ?_ ?_; rotate_left 1; (· (intro w' hS; go_simp; (try (simp only [↓IntWalk.iteOmega]; go_simp)); (try simp (disch := omega) only [IntWalk.i64_in]); try with_reducible rfl)); simp only [Act.put, List.setIfInBounds_toArray, List.set_cons_zero, List.set_cons_succ]) | (refine qs_run (v := ?_) (by rfl) ?_ ?_; rotate_left 1; (· (intro j w' hS; go_simp; (try (simp only [↓IntWalk.iteOmega]; go_simp)); (try simp (disch := omega) only [IntWalk.i64_in]); try with_reducible rfl)); simp only [Act.put, List.setIfInBounds_toArray, List.set_cons_zero, List.set_cons_succ]) | (refine qs_mid (v := ?_) (by rfl) ?_ ?_; rotate_left 1; (· (intro j w' hj1 hj2 hS; go_simp; (try (simp only [↓IntWalk.iteOmega]; go_simp)); (try simp (disch := omega) only [IntWalk.i64_in]); try with_reducible rfl)); simp only [Act.put, List.setIfInBounds_toArray, List.set_cons_zero, List.set_cons_succ]) | (refine qs_skip (by rfl) ?_; simp only [Act.put, List.setIfInBounds_toArray, List.set_cons_zero, List.set_cons_succ])))
            refine qs_act ?_
            go_wp2_with (go_at_call 78; refine (cmp_any e q _ HSE.out HSQ.out).mono ?_; rintro ev w1 ⟨rfl, hb1⟩)
            refine ⟨fun h => h.elim, ?_⟩
            (repeat (first | ((first | (refine qs_row (by rfl) 56 _ (by rfl) g (j * 73) (by rfl) (itC (itP e)) _ (fun j w2 h1 h2 h => (h (by omega)).1) Tryz.underlying56 rfl (itC_info _) ?_) | (refine qs_row (by rfl) 56 _ (by rfl) g ((j - 1) * 73) (by rfl) (itC (itP q)) _ (fun j w2 h1 h2 h => (h (by omega)).2) Tryz.underlying56 rfl (itC_info _) ?_)); simp only [Act.put, List.setIfInBounds_toArray, List.set_cons_zero, List.set_cons_succ]) | (refine qs_now (v := ?_) (by rfl) ?_ ?_; rotate_left 1; (· (intro w' hS; go_simp; (try (simp only [↓IntWalk.iteOmega]; go_simp)); (try simp (disch := omega) only [IntWalk.i64_in]); try with_reducible rfl)); simp only [Act.put, List.setIfInBounds_toArray, List.set_cons_zero, List.set_cons_succ]) | (refine qs_run (v := ?_) (by rfl) ?_ ?_; rotate_left 1; (· (intro j w' hS; go_simp; (try (simp only [↓IntWalk.iteOmega]; go_simp)); (try simp (disch := omega) only [IntWalk.i64_in]); try with_reducible rfl)); simp only [Act.put, List.setIfInBounds_toArray, List.set_cons_zero, List.set_cons_succ]) | (refine qs_mid (v := ?_) (by rfl) ?_ ?_; rotate_left 1; (· (intro j w' hj1 hj2 hS; go_simp; (try (simp only [↓IntWalk.iteOmega]; go_simp)); (try simp (disch := omega) only [IntWalk.i64_in]); try with_reducible rfl)); simp only [Act.put, List.setIfInBounds_toArray, List.set_cons_zero, List.set_cons_succ]) | (refine qs_skip (by rfl) ?_; simp only [Act.put, List.setIfInBounds_toArray, List.set_cons_zero, List.set_cons_succ])))
            refine qs_nil ?_
            clear c1 d1
            have HR1 := Lib.hid (HRW2.out.drew.grown hb1)
            have HG1 := Lib.hid (grown_below (grown_drew HGR2.out) hb1)
            clear hb1
            go_wp2_with fail
            go_roundw
            case rel =>
              refine ins_done hlt HE.out HI.out HTS.out HTE.out HL.out HQ.out (fun p hp => ?_) HR1.out HG1.out
              have h1 := HTS.out
              rw [HL.out, HL0.out] at h1
              have h2 := (List.pairwise_append.1 (List.pairwise_append.1 h1).1).2.2
              rw [HL0.out] at hp
              rcases List.mem_append.1 hp with hp | hp
              · have := h2 p hp q (by simp); omega
              · obtain rfl : p = q := by simpa using hp
                omega
            case measure => simp [intOf]; omega
        · have hja' : j = a := by have := HJ.out; omega
          have hl1 : l1 = [] := List.eq_nil_of_length_eq_zero (by have := HJ.out; omega)
          have HL1 := Lib.hid hl1
          clear hl1 hja'
          have hd : decide ((a : Int) < j) = false := by simp; omega
          go_wp2_with fail
          refine wp_region_qs (fun k w' => True) [(0, some 1), (1, some 1), (2, some 1), (3, some 0), (4, some 0), (5, some 1), (6, some 1), (7, some 1), (8, some 0), (9, some 1), (10, some 1), (11, some 1), (12, some 1), (13, some 0), (14, none), (15, some 1), (16, some 1)] (by kernel_rfl) (by kernel_rfl) (by kernel_rfl) (by kernel_rfl) (by kernel_rfl) (fun _ _ _ _ _ h => h) trivial ?_
          simp only [List.map_cons, List.map_nil, List.getD_cons_succ, List.getD_cons_zero]
          (repeat (first | ((first | (refine qs_row (by rfl) 56 _ (by rfl) g (j * 73) (by rfl) (itC (itP e)) _ (fun j w2 h1 h2 h => (h (by omega)).1) Tryz.underlying56 rfl (itC_info _) ?_) | (refine qs_row (by rfl) 56 _ (by rfl) g ((j - 1) * 73) (by rfl) (itC (itP q)) _ (fun j w2 h1 h2 h => (h (by omega)).2) Tryz.underlying56 rfl (itC_info _) ?_)); simp only [Act.put, List.setIfInBounds_toArray, List.set_cons_zero, List.set_cons_succ]) | (refine qs_now (v := ?_) (by rfl) ?_ ?_; rotate_left 1; (· (intro w' hS; go_simp; (try (simp only [↓IntWalk.iteOmega]; go_simp)); (try simp (disch := omega) only [IntWalk.i64_in]); try with_reducible rfl)); simp only [Act.put, List.setIfInBounds_toArray, List.set_cons_zero, List.set_cons_succ]) | (refine qs_run (v := ?_) (by rfl) ?_ ?_; rotate_left 1; (· (intro j w' hS; go_simp; (try (simp only [↓IntWalk.iteOmega]; go_simp)); (try simp (disch := omega) only [IntWalk.i64_in]); try with_reducible rfl)); simp only [Act.put, List.setIfInBounds_toArray, List.set_cons_zero, List.set_cons_succ]) | (refine qs_mid (v := ?_) (by rfl) ?_ ?_; rotate_left 1; (· (intro j w' hj1 hj2 hS; go_simp; (try (simp only [↓IntWalk.iteOmega]; go_simp)); (try simp (disch := omega) only [IntWalk.i64_in]); try with_reducible rfl)); simp only [Act.put, List.setIfInBounds_toArray, List.set_cons_zero, List.set_cons_succ]) | (refine qs_skip (by rfl) ?_; simp only [Act.put, List.setIfInBounds_toArray, List.set_cons_zero, List.set_cons_succ])))
          refine qs_act ?_
          go_wp2_with fail
          refine ⟨trivial, ?_⟩
          (repeat (first | ((first | (refine qs_row (by rfl) 56 _ (by rfl) g (j * 73) (by rfl) (itC (itP e)) _ (fun j w2 h1 h2 h => (h (by omega)).1) Tryz.underlying56 rfl (itC_info _) ?_) | (refine qs_row (by rfl) 56 _ (by rfl) g ((j - 1) * 73) (by rfl) (itC (itP q)) _ (fun j w2 h1 h2 h => (h (by omega)).2) Tryz.underlying56 rfl (itC_info _) ?_)); simp only [Act.put, List.setIfInBounds_toArray, List.set_cons_zero, List.set_cons_succ]) | (refine qs_now (v := ?_) (by rfl) ?_ ?_; rotate_left 1; (· (intro w' hS; go_simp; (try (simp only [↓IntWalk.iteOmega]; go_simp)); (try simp (disch := omega) only [IntWalk.i64_in]); try with_reducible rfl)); simp only [Act.put, List.setIfInBounds_toArray, List.set_cons_zero, List.set_cons_succ]) | (refine qs_run (v := ?_) (by rfl) ?_ ?_; rotate_left 1; (· (intro j w' hS; go_simp; (try (simp only [↓IntWalk.iteOmega]; go_simp)); (try simp (disch := omega) only [IntWalk.i64_in]); try with_reducible rfl)); simp only [Act.put, List.setIfInBounds_toArray, List.set_cons_zero, List.set_cons_succ]) | (refine qs_mid (v := ?_) (by rfl) ?_ ?_; rotate_left 1; (· (intro j w' hj1 hj2 hS; go_simp; (try (simp only [↓IntWalk.iteOmega]; go_simp)); (try simp (disch := omega) only [IntWalk.i64_in]); try with_reducible rfl)); simp only [Act.put, List.setIfInBounds_toArray, List.set_cons_zero, List.set_cons_succ]) | (refine qs_skip (by rfl) ?_; simp only [Act.put, List.setIfInBounds_toArray, List.set_cons_zero, List.set_cons_succ])))
          refine qs_nil ?_
          go_wp2_with fail
          go_roundw
          case rel => exact ins_done hlt HE.out HI.out HTS.out HTE.out HL.out HQ.out (fun p hp => by rw [HL1.out] at hp; cases hp) HRW2.out.drew (grown_drew HGR2.out)
          case measure => simp [intOf]; omega
    · have hltb : ¬ (i : Int) < b := by omega
      obtain rfl : m = s.length := by omega
      clear him hib
      go_wp2_with fail
      go_end0
      refine ⟨rfl, t, HTS.out, ?_, ?_, HGR.out⟩
      · have := HTE.out
        rwa [List.take_length] at this
      · have := HRW.out
        rwa [List.drop_length, List.append_nil] at this
end Go.Proofs.YtgjjdfhoakailaaGreat
namespace Go.Proofs.YtgjjdfhoakailaaGreat
open Go.RowKit
set_option linter.unusedVariables false

def SortPost (s : List PV) (w : World) (g n cap : Nat) (e : Ending) (w' : World) : Prop :=
  e = .returned (.tuple #[]) ∧ PRow w' g n cap (stSort s) ∧ w.grownBy w' (some g)
/-- Rows of at most N packs are sorted, stably. -/
def StableSaid (N : Nat) : Prop := ∀ (s : List PV) (w : World) (g n cap : Nat), n ≤ N → PRow w g n cap s → (∀ p ∈ s, Small p.1) →
  Calls Tryz.prog 77 #[.slice (some ⟨g, 0, none⟩) n cap, .func (.func 78) #[] #[]] w (SortPost s w g n cap)

end Go.Proofs.YtgjjdfhoakailaaGreat
namespace Go.Proofs.YtgjjdfhoakailaaGreat
open Go.RowKit Go.Maps Go.Sort Go.Shelf
set_option linter.unusedVariables false

def RowPost (ps : List PV) (w : World) (g n cap : Nat) (e : Ending) (w' : World) : Prop := e = .returned (.tuple #[]) ∧ PRow w' g n cap ps ∧ w.grownBy w' (some g)
def SR (X A Z B Y : List PV) (m : Nat) (w : World) (g n cap : Nat) (iv : Value) (wr : World) : Prop :=
  ∃ k : Nat, k ≤ m ∧ iv = .int .i64 k ∧ PRow wr g n cap (X ++ (B.take k ++ A.drop k) ++ Z ++ (A.take k ++ B.drop k) ++ Y) ∧ w.grownBy wr (some g)
theorem drop_at {α : Type} {l : List α} {k : Nat} (h : k < l.length) : ∃ p, l.drop k = p :: l.drop (k + 1) ∧ l.take (k + 1) = l.take k ++ [p] :=
  ⟨l[k], List.drop_eq_getElem_cons h, List.take_succ_eq_append_getElem h⟩

set_option maxHeartbeats 1600000 in
theorem swapRange_any (X A Z B Y : List PV) (w : World) (g n cap a b m : Nat) (hrow : PRow w g n cap (X ++ A ++ Z ++ B ++ Y)) (ha : a = X.length) (hA : A.length = m) (hB : B.length = m) (hb : b = a + m + Z.length) (hn : n ≤ 35184372088832) :
    Calls Tryz.prog 161 #[.slice (some ⟨g, 0, none⟩) n cap, .int .i64 a, .int .i64 b, .int .i64 m, .func (.func 78) #[] #[]] w (RowPost (X ++ B ++ Z ++ A ++ Y) w g n cap) := by
  have hlen := hrow.len
  simp only [List.length_append] at hlen
  have hbn : b + m ≤ n := by omega
  have hab : a + m ≤ b := by omega
  have HL := Lib.hid hlen
  have HRow := Lib.hid hrow
  have HA := Lib.hid ha
  have HAl := Lib.hid hA
  have HBl := Lib.hid hB
  have HB := Lib.hid hb
  clear hlen hrow ha hA hB hb
  go_enter Tryz.func161, Tryz.ntmps161
  go_wp2_with fail
  go_loopw [10] (SR X A Z B Y m w g n cap) (fun i _ => m - (intOf i).toNat)
  case atStart => exact ⟨0, by omega, rfl, by simpa using HRow.out, World.grownBy.refl _ _⟩
  case round =>
    obtain ⟨k, hk, rfl, hr, hg⟩ := hrel
    have HG := Lib.hid hg
    by_cases hlt : k < m
    · have hltI : (k : Int) < m := by omega
      obtain ⟨p, hp1, hp2⟩ := drop_at (l := A) (k := k) (by rw [HAl.out]; exact hlt)
      obtain ⟨q, hq1, hq2⟩ := drop_at (l := B) (k := k) (by rw [HBl.out]; exact hlt)
      have eL : X ++ (B.take k ++ A.drop k) ++ Z ++ (A.take k ++ B.drop k) ++ Y = (X ++ B.take k) ++ p :: ((A.drop (k + 1) ++ Z ++ A.take k) ++ q :: (B.drop (k + 1) ++ Y)) := by rw [hp1, hq1]; simp
      rw [eL] at hr
      have eR : (X ++ B.take k) ++ q :: ((A.drop (k + 1) ++ Z ++ A.take k) ++ p :: (B.drop (k + 1) ++ Y)) = X ++ (B.take (k + 1) ++ A.drop (k + 1)) ++ Z ++ (A.take (k + 1) ++ B.drop (k + 1)) ++ Y := by rw [hp2, hq2]; simp
      have l1 : a + k = (X ++ B.take k).length := by
        have h1 := HA.out
        have h2 := HBl.out
        simp; omega
      have l2 : b + k = (X ++ B.take k).length + 1 + (A.drop (k + 1) ++ Z ++ A.take k).length := by
        have h1 := HA.out
        have h2 := HAl.out
        have h3 := HB.out
        rw [← l1]
        simp; omega
      generalize (X ++ B.take k) = l0 at *
      generalize (A.drop (k + 1) ++ Z ++ A.take k) = l3 at *
      generalize (B.drop (k + 1) ++ Y) = l4 at *
      have c1 := Lib.hid (hr.at_ (at1 l0 _ p (a + k) l1))
      have d1 := Lib.hid (hr.at_ (at2 l0 l3 l4 p q (b + k) l2))
      have HR := Lib.hid hr
      have HE := Lib.hid eR
      have HL1 := Lib.hid l1
      have HL2 := Lib.hid l2
      have f1 := hr.free ((a + k) * 73)
      have f2 := hr.free ((a + k) * 73 + 1)
      have f3 := hr.free ((b + k) * 73)
      have f4 := hr.free ((b + k) * 73 + 1)
      clear hr hg eL eR hp1 hp2 hq1 hq2 l1 l2
      have i1 : (a : Int) + k < n := by omega
      have i2 : (b : Int) + k < n := by omega
      have t1 : ((a : Int) + k).toNat = a + k := by omega
      have t2 : ((b : Int) + k).toNat = b + k := by omega
      go_wp2_with fail
      refine wp_region_qs (fun k' w' => k' = 0 → w'.rangeAt g ((a + k) * 73) (itC (itP p)) ∧ w'.rangeAt g ((b + k) * 73) (itC (itP q)))
        [(0, some 0), (1, some 0), (2, some 0), (3, some 0), (4, some 1), (5, some 1), (6, some 1), (7, some 1), (8, some 0), (9, some 0), (10, some 0), (11, some 0), (12, some 0), (13, some 0), (14, some 1), (15, some 1), (16, some 1), (17, some 1), (18, some 1), (19, some 0), (20, some 0), (21, none), (22, some 1), (23, none)] (by kernel_rfl) (by kernel_rfl) (by kernel_rfl) (by kernel_rfl) (by kernel_rfl) (fun _ _ _ _ _ h => h) (fun _ => ⟨c1.out, d1.out⟩) ?_
      simp only [List.map_cons, List.map_nil, List.getD_cons_succ, List.getD_cons_zero]
      (repeat (first | ((first | (refine qs_row (by rfl) 56 _ (by rfl) g ((a + k) * 73) (by rfl) (itC (itP p)) _ (fun j w2 h1 h2 h => (h (by omega)).1) Tryz.underlying56 rfl (itC_info _) ?_) | (refine qs_row (by rfl) 56 _ (by rfl) g ((b + k) * 73) (by rfl) (itC (itP q)) _ (fun j w2 h1 h2 h => (h (by omega)).2) Tryz.underlying56 rfl (itC_info _) ?_)); simp only [Act.put, List.setIfInBounds_toArray, List.set_cons_zero, List.set_cons_succ]) | (refine qs_now (v := ?_) (by rfl) ?_ ?_; rotate_left 1; (· (intro w' hS; go_simp; (try (simp only [↓IntWalk.iteOmega]; go_simp)); (try simp (disch := omega) only [IntWalk.i64_in]); try with_reducible rfl)); simp only [Act.put, List.setIfInBounds_toArray, List.set_cons_zero, List.set_cons_succ]) | (refine qs_run (v := ?_) (by rfl) ?_ ?_; rotate_left 1; (· (intro j w' hS; go_simp; (try (simp only [↓IntWalk.iteOmega]; go_simp)); (try simp (disch := omega) only [IntWalk.i64_in]); try with_reducible rfl)); simp only [Act.put, List.setIfInBounds_toArray, List.set_cons_zero, List.set_cons_succ]) | (refine qs_mid (v := ?_) (by rfl) ?_ ?_; rotate_left 1; (· (intro j w' hj1 hj2 hS; go_simp; (try (simp only [↓IntWalk.iteOmega]; go_simp)); (try simp (disch := omega) only [IntWalk.i64_in]); try with_reducible rfl)); simp only [Act.put, List.setIfInBounds_toArray, List.set_cons_zero, List.set_cons_succ]) | (refine qs_skip (by rfl) ?_; simp only [Act.put, List.setIfInBounds_toArray, List.set_cons_zero, List.set_cons_succ])))
      have hone := HR.out.one
      have HONE := Lib.hid hone
      have hlen := HR.out.len
      have HLEN := Lib.hid hlen
      clear t1 t2 hone hlen c1 d1 f1 f2 f3 f4
      refine qs_act ?_
      refine prow_store rfl (.tmp 36) (.tmp 29) rfl (a + k) q _ rfl rfl rfl HR.out.drew (by rw [HLEN.out]; omega) (HONE.out q (by simp)) ?_
      intro w2 hr2 hg2
      have HR2 := Lib.hid hr2
      have HG2 := Lib.hid ((grown_drew HG.out).trans hg2)
      clear hr2 hg2
      refine wpList_nil ?_
      refine ⟨fun h => (by cases h), ?_⟩
      (repeat (first | ((first | (refine qs_row (by rfl) 56 _ (by rfl) g ((a + k) * 73) (by rfl) (itC (itP p)) _ (fun j w2 h1 h2 h => (h (by omega)).1) Tryz.underlying56 rfl (itC_info _) ?_) | (refine qs_row (by rfl) 56 _ (by rfl) g ((b + k) * 73) (by rfl) (itC (itP q)) _ (fun j w2 h1 h2 h => (h (by omega)).2) Tryz.underlying56 rfl (itC_info _) ?_)); simp only [Act.put, List.setIfInBounds_toArray, List.set_cons_zero, List.set_cons_succ]) | (refine qs_now (v := ?_) (by rfl) ?_ ?_; rotate_left 1; (· (intro w' hS; go_simp; (try (simp only [↓IntWalk.iteOmega]; go_simp)); (try simp (disch := omega) only [IntWalk.i64_in]); try with_reducible rfl)); simp only [Act.put, List.setIfInBounds_toArray, List.set_cons_zero, List.set_cons_succ]) | (refine qs_run (v := ?_) (by rfl) ?_ ?_; rotate_left 1; (· (intro j w' hS; go_simp; (try (simp only [↓IntWalk.iteOmega]; go_simp)); (try simp (disch := omega) only [IntWalk.i64_in]); try with_reducible rfl)); simp only [Act.put, List.setIfInBounds_toArray, List.set_cons_zero, List.set_cons_succ]) | (refine qs_mid (v := ?_) (by rfl) ?_ ?_; rotate_left 1; (· (intro j w' hj1 hj2 hS; go_simp; (try (simp only [↓IntWalk.iteOmega]; go_simp)); (try simp (disch := omega) only [IntWalk.i64_in]); try with_reducible rfl)); simp only [Act.put, List.setIfInBounds_toArray, List.set_cons_zero, List.set_cons_succ]) | (refine qs_skip (by rfl) ?_; simp only [Act.put, List.setIfInBounds_toArray, List.set_cons_zero, List.set_cons_succ])))
      refine qs_act ?_
      refine prow_store rfl (.tmp 37) (.tmp 35) rfl (b + k) p _ rfl rfl rfl HR2.out (by rw [List.length_set, HLEN.out]; omega) (HONE.out p (by simp)) ?_
      intro w3 hr3 hg3
      have HR3 := Lib.hid hr3
      have HG3 := Lib.hid (HG2.out.trans hg3)
      clear hr3 hg3
      refine wpList_nil ?_
      refine ⟨fun h => (by cases h), ?_⟩
      refine qs_nil ?_
      go_wp2_with fail
      go_roundw
      case rel =>
        refine ⟨k + 1, by omega, by go_num, ?_, HG3.out⟩
        have := HR3.out
        rw [set2 l0 l3 l4 p q _ _ HL1.out HL2.out, HE.out] at this
        exact this
      case measure => simp [intOf]; omega
    · have hltI : ¬ (k : Int) < m := by omega
      obtain rfl : k = m := by omega
      have HR := Lib.hid hr
      clear hr hg
      go_wp2_with fail
      go_end0
      refine ⟨rfl, ?_, HG.out⟩
      have := HR.out
      rw [List.take_of_length_le (by rw [HBl.out]; exact Nat.le_refl _), List.drop_of_length_le (by rw [HAl.out]; exact Nat.le_refl _), List.take_of_length_le (by rw [HAl.out]; exact Nat.le_refl _), List.drop_of_length_le (by rw [HBl.out]; exact Nat.le_refl _)] at this
      simpa using this

/-- Between two turns: what has its place lies left and right, P and Q are still to be turned. -/
def RT (T : List PV) (m : Nat) (w : World) (g n cap : Nat) (iv jv : Value) (wr : World) : Prop :=
  ∃ (X P Q Y : List PV), iv = .int .i64 P.length ∧ jv = .int .i64 Q.length ∧ P ≠ [] ∧ Q ≠ [] ∧ m = X.length + P.length ∧ T = X ++ Q ++ P ++ Y ∧ PRow wr g n cap (X ++ P ++ Q ++ Y) ∧ w.grownBy wr (some g)
set_option maxHeartbeats 1600000 in
theorem rotate_any (X U V Y : List PV) (w : World) (g n cap a m b : Nat) (hrow : PRow w g n cap (X ++ U ++ V ++ Y)) (ha : a = X.length) (hm : m = a + U.length) (hb : b = m + V.length) (hU : U ≠ []) (hV : V ≠ []) (hn : n ≤ 35184372088832) :
    Calls Tryz.prog 147 #[.slice (some ⟨g, 0, none⟩) n cap, .int .i64 a, .int .i64 m, .int .i64 b, .func (.func 78) #[] #[]] w (RowPost (X ++ V ++ U ++ Y) w g n cap) := by
  have hlen := hrow.len
  simp only [List.length_append] at hlen
  have hbn : b ≤ n := by omega
  have hmb : m ≤ b := by omega
  have ham : a ≤ m := by omega
  have HRow := Lib.hid hrow
  have HA := Lib.hid ha
  have HM := Lib.hid hm
  have HB := Lib.hid hb
  have HU := Lib.hid hU
  have HV := Lib.hid hV
  clear hlen hrow ha hm hb hU hV
  go_enter Tryz.func147, Tryz.ntmps147
  go_wp2_with fail
  go_loopw [10, 11] (RT (X ++ V ++ U ++ Y) m w g n cap) (fun i j _ => (intOf i).toNat + (intOf j).toNat)
  case atStart =>
    refine ⟨X, U, V, Y, ?_, ?_, HU.out, HV.out, ?_, rfl, HRow.out, World.grownBy.refl _ _⟩
    · have h1 := HM.out
      rw [show (m : Int) - a = U.length from by omega]
    · have h1 := HB.out
      rw [show (b : Int) - m = V.length from by omega]
    · rw [HM.out, HA.out]
  case round =>
    obtain ⟨X1, P, Q, Y1, rfl, rfl, hP, hQ, hm1, hT, hr, hg⟩ := hrel
    have hP0 : 0 < P.length := List.length_pos_iff.2 hP
    have hQ0 : 0 < Q.length := List.length_pos_iff.2 hQ
    have hl := hr.len
    simp only [List.length_append] at hl
    have hPn : P.length ≤ m := by omega
    have hQn : m + Q.length ≤ n := by omega
    have HM1 := Lib.hid hm1
    have HT := Lib.hid hT
    have HR := Lib.hid hr
    have HG := Lib.hid hg
    clear hP hQ hl hm1 hT hr hg
    rcases Nat.lt_trichotomy P.length Q.length with hlt | heq | hgt
    · have h1 : ¬ (P.length : Int) = Q.length := by omega
      have h2 : ¬ (Q.length : Int) < P.length := by omega
      have h2' : ¬ Q.length < P.length := by omega
      have HQs : Hid (Q = Q.take (Q.length - P.length) ++ Q.drop (Q.length - P.length)) := (List.take_append_drop _ _).symm
      have HQl : Hid ((Q.drop (Q.length - P.length)).length = P.length) := by show _ = _; simp; omega
      have HQl1 : Hid ((Q.take (Q.length - P.length)).length = Q.length - P.length) := by show _ = _; simp
      go_wp2_with fail
      have h3 := swapRange_any X1 P (Q.take (Q.length - P.length)) (Q.drop (Q.length - P.length)) Y1 wr g n cap (m - P.length) (m + Q.length - P.length) P.length
        (by have := HR.out; rw [HQs.out] at this; simpa using this) (by have := HM1.out; omega) rfl HQl.out (by rw [HQl1.out]; omega) hn
      have e1 : ((m - P.length : Nat) : Int) = m - P.length := by omega
      have e2 : ((m + Q.length - P.length : Nat) : Int) = m + Q.length - P.length := by omega
      rw [e1, e2] at h3
      refine h3.mono ?_
      clear h3
      rintro ev w1 ⟨rfl, hr1, hg1⟩
      have HR1 := Lib.hid hr1
      have HG1 := Lib.hid (HG.out.trans hg1)
      clear hr1 hg1
      go_wp2_with fail
      go_roundw
      case rel =>
        refine ⟨X1, Q.drop (Q.length - P.length), Q.take (Q.length - P.length), P ++ Y1, ?_, ?_, ?_, ?_, ?_, ?_, ?_, HG1.out⟩
        · rw [HQl.out]
        · rw [HQl1.out]; congr 1; omega
        · intro h; have := HQl.out; rw [h] at this; simp at this; omega
        · intro h; have := HQl1.out; rw [h] at this; simp at this; omega
        · rw [HQl.out]; exact HM1.out
        · have := HT.out
          rw [HQs.out] at this
          rw [this]; simp
        · simpa using HR1.out
      case measure => simp [intOf]; omega
    · have h1 : (P.length : Int) = Q.length := by omega
      have HE := Lib.hid heq
      have hd : ((P.length : Int) != Q.length) = false := by simp [heq]
      clear heq h1
      go_wp2_with fail
      have h3 := swapRange_any X1 P [] Q Y1 wr g n cap (m - P.length) m P.length (by simpa using HR.out) (by have := HM1.out; omega) rfl HE.out.symm (by simp; omega) hn
      have e1 : ((m - P.length : Nat) : Int) = m - P.length := by omega
      rw [e1] at h3
      simp only [List.append_nil] at h3
      refine h3.mono ?_
      clear h3
      rintro ev w1 ⟨rfl, hr1, hg1⟩
      have HR1 := Lib.hid hr1
      have HG1 := Lib.hid (HG.out.trans hg1)
      clear hr1 hg1
      go_wp2_with fail
      go_end0
      exact ⟨rfl, by rw [HT.out]; exact HR1.out, HG1.out⟩
    · have h1 : ¬ (P.length : Int) = Q.length := by omega
      have h2 : (Q.length : Int) < P.length := by omega
      have HPs : Hid (P = P.take Q.length ++ P.drop Q.length) := (List.take_append_drop _ _).symm
      have HPl : Hid ((P.take Q.length).length = Q.length) := by show _ = _; simp; omega
      have HPl1 : Hid ((P.drop Q.length).length = P.length - Q.length) := by show _ = _; simp
      go_wp2_with fail
      have h3 := swapRange_any X1 (P.take Q.length) (P.drop Q.length) Q Y1 wr g n cap (m - P.length) m Q.length
        (by have := HR.out; rw [HPs.out] at this; simpa using this) (by have := HM1.out; omega) HPl.out rfl (by rw [HPl1.out]; omega) hn
      have e1 : ((m - P.length : Nat) : Int) = m - P.length := by omega
      rw [e1] at h3
      refine h3.mono ?_
      clear h3
      rintro ev w1 ⟨rfl, hr1, hg1⟩
      have HR1 := Lib.hid hr1
      have HG1 := Lib.hid (HG.out.trans hg1)
      clear hr1 hg1
      go_wp2_with fail
      go_roundw
      case rel =>
        refine ⟨X1 ++ Q, P.drop Q.length, P.take Q.length, Y1, ?_, ?_, ?_, ?_, ?_, ?_, ?_, HG1.out⟩
        · rw [HPl1.out]; congr 1; omega
        · rw [HPl.out]
        · intro h; have := HPl1.out; rw [h] at this; simp at this; omega
        · intro h; have := HPl.out; rw [h] at this; simp at this; omega
        · rw [HPl1.out, List.length_append]; have := HM1.out; omega
        · have := HT.out
          rw [HPs.out] at this
          rw [this]; simp
        · exact HR1.out
      case measure => simp [intOf]; omega
end Go.Proofs.YtgjjdfhoakailaaGreat
namespace Go.Proofs.YtgjjdfhoakailaaGreat
open Go.RowKit Go.Maps Go.Sort Go.Shelf
set_option linter.unusedVariables false

def MergedPost (x u v y : List PV) (w : World) (g n cap : Nat) (e : Ending) (w' : World) : Prop :=
  e = .returned (.tuple #[]) ∧ ∃ t, Srt t ∧ StEq (u ++ v) t ∧ PRow w' g n cap (x ++ t ++ y) ∧ w.grownBy w' (some g)
theorem mem_seg {α : Type} {x s y : List α} {i : Nat} {p : α} (h : (x ++ s ++ y)[i]? = some p) (h1 : x.length ≤ i) (h2 : i < x.length + s.length) : p ∈ s := by
  rw [List.append_assoc, List.getElem?_append_right h1, List.getElem?_append_left (by omega)] at h
  exact List.mem_of_getElem? h
/-- A search by halves in a row that stays. -/
def SS (P : Nat → Bool) (L : List PV) (s0 r0 : Nat) (w : World) (g n cap : Nat) (iv jv : Value) (wr : World) : Prop :=
  ∃ st r : Nat, iv = .int .i64 st ∧ jv = .int .i64 r ∧ Bs P s0 r0 st r ∧ PRow wr g n cap L ∧ w.grownBy wr (some g)
def SK (x v y : List PV) (e : PV) (a lo hi : Nat) (w : World) (g n cap : Nat) (kv : Value) (wr : World) : Prop :=
  ∃ k : Nat, lo ≤ k ∧ k ≤ hi ∧ kv = .int .i64 k ∧ PRow wr g n cap (x ++ v.take (k - a) ++ e :: (v.drop (k - a) ++ y)) ∧ w.grownBy wr (some g)
theorem half {st r : Nat} (h : st < r) : st ≤ (st + r) / 2 ∧ (st + r) / 2 < r := by omega

set_option maxRecDepth 100000 in
set_option maxHeartbeats 3200000 in
theorem sym_left (x v y : List PV) (e : PV) (w : World) (g n cap a m b : Nat) (hrow : PRow w g n cap (x ++ [e] ++ (v ++ y))) (ha : a = x.length) (hm : m = a + 1) (hb : b = m + v.length) (hv : Srt v) (hn : n ≤ 35184372088832) (hsm : ∀ p ∈ [e] ++ v, Small p.1) :
    Calls Tryz.prog 131 #[.slice (some ⟨g, 0, none⟩) n cap, .int .i64 a, .int .i64 m, .int .i64 b, .func (.func 78) #[] #[]] w (MergedPost x [e] v y w g n cap) := by
  have hlen := hrow.len
  simp only [List.length_append, List.length_singleton] at hlen
  have hbn : b ≤ n := by omega
  have hmb : m ≤ b := by omega
  have h1 : (m : Int) - a = 1 := by omega
  have hA : (x ++ [e] ++ (v ++ y))[a]? = some e := by rw [ha]; simp
  have HE := Lib.hid hA
  have HRow := Lib.hid hrow
  have HA := Lib.hid ha
  have HM := Lib.hid hm
  have HB := Lib.hid hb
  have HV := Lib.hid hv
  have HS := Lib.hid hsm
  have HLen := Lib.hid hlen
  have hmon : Mon (fun h => decide (keyAt (x ++ [e] ++ (v ++ y)) h < e.1)) m b := by
    intro c d h1 h2 h3 h4
    simp only [decide_eq_true_eq] at h4 ⊢
    have e1 : x ++ [e] ++ (v ++ y) = (x ++ [e]) ++ v ++ y := by simp
    have := key_mono (x := x ++ [e]) (u := v) (r := y) hv (i := c) (j := d) (by simp; omega) h2 (by simp; omega)
    rw [← e1] at this
    omega
  have HMon := Lib.hid hmon
  have ham : a < m := by omega
  have hse : Small e.1 := hsm e (by simp)
  have HSE := Lib.hid hse
  unfold Small at hse
  clear hlen hrow ha hm hb hv hsm hmon hA
  go_enter Tryz.func131, Tryz.ntmps131
  go_wp2_with fail
  clear h1
  go_loopw [10, 11] (SS (fun h => decide (keyAt (x ++ [e] ++ (v ++ y)) h < e.1)) (x ++ [e] ++ (v ++ y)) m b w g n cap) (fun i j _ => (intOf j).toNat - (intOf i).toNat)
  case atStart => exact ⟨m, b, rfl, rfl, bs_start hmb, HRow.out, World.grownBy.refl _ _⟩
  case round =>
    obtain ⟨st, r, rfl, rfl, hbs, hr, hg⟩ := hrel
    have HBs := Lib.hid hbs
    have HR := Lib.hid hr
    have HG := Lib.hid hg
    obtain ⟨hb1, hb2, hb3, _, _⟩ := hbs
    clear hr hg
    by_cases hlt : st < r
    · have hltI : (st : Int) < r := by omega
      obtain ⟨hh1, hh2⟩ := half hlt
      obtain ⟨h, hh⟩ : ∃ h, h = (st + r) / 2 := ⟨_, rfl⟩
      rw [← hh] at hh1 hh2
      have hhI : ((st : Int) + r) / 2 = h := by omega
      have hhn : h < n := by omega
      have hhnI : (h : Int) < n := by omega
      have haI : (a : Int) < n := by omega
      clear hh
      obtain ⟨p, hp⟩ : ∃ p, (x ++ [e] ++ (v ++ y))[h]? = some p := ⟨_, List.getElem?_eq_getElem (by rw [HR.out.len]; exact hhn)⟩
      have HP := Lib.hid hp
      have hps : Small p.1 := HS.out p (by
        have e1 : x ++ [e] ++ (v ++ y) = x ++ ([e] ++ v) ++ y := by simp
        rw [e1] at hp
        have h2 := HA.out
        have h3 := HM.out
        have h4 := HB.out
        exact mem_seg hp (by omega) (by simp; omega))
      have HPS := Lib.hid hps
      unfold Small at hps
      have c1 := Lib.hid (HR.out.at_ hp)
      have d1 := Lib.hid (HR.out.at_ HE.out)
      clear hp
      by_cases hcmp : p.1 < e.1
      · have hdc : decide (p.1 - e.1 < 0) = true := by simp; omega
        go_wp2_with fail
        refine wp_region_qs (fun k w' => k = 0 → w'.rangeAt g (h * 73) (itC (itP p)) ∧ w'.rangeAt g (a * 73) (itC (itP e)))
          [(0, some 0), (1, some 1), (2, some 1), (3, some 1), (4, some 0), (5, some 1), (6, some 1), (7, some 1), (8, some 0), (9, none), (10, some 1)] (by kernel_rfl) (by kernel_rfl) (by kernel_rfl) (by kernel_rfl) (by kernel_rfl) (fun _ _ _ _ _ h => h) (fun _ => ⟨c1.out, d1.out⟩) ?_
        simp only [List.map_cons, List.map_nil, List.getD_cons_succ, List.getD_cons_zero]
        (repeat (first | ((first | (refine qs_row (by rfl) 56 _ (by rfl) g (h * 73) (by rfl) (itC (itP p)) _ (fun j w2 h1 h2 h => (h (by omega)).1) Tryz.underlying56 rfl (itC_info _) ?_) | (refine qs_row (by rfl) 56 _ (by rfl) g (a * 73) (by rfl) (itC (itP e)) _ (fun j w2 h1 h2 h => (h (by omega)).2) Tryz.underlying56 rfl (itC_info _) ?_)); simp only [Act.put, List.setIfInBounds_toArray, List.set_cons_zero, List.set_cons_succ]) | (refine qs_now (v := ?_) (by rfl) ?_ ?_; rotate_left 1; (· (intro w' hS; go_simp; (try (simp only [↓IntWalk.iteOmega]; go_simp)); (try simp (disch := omega) only [IntWalk.i64_in]); try with_reducible rfl)); simp only [Act.put, List.setIfInBounds_toArray, List.set_cons_zero, List.set_cons_succ]) | (refine qs_run (v := ?_) (by rfl) ?_ ?_; rotate_left 1; (· (intro j w' hS; go_simp; (try (simp only [↓IntWalk.iteOmega]; go_simp)); (try simp (disch := omega) only [IntWalk.i64_in]); try with_reducible rfl)); simp only [Act.put, List.setIfInBounds_toArray, List.set_cons_zero, List.set_cons_succ]) | (refine qs_mid (v := ?_) (by rfl) ?_ ?_; rotate_left 1; (· (intro j w' hj1 hj2 hS; go_simp; (try (simp only [↓IntWalk.iteOmega]; go_simp)); (try simp (disch := omega) only [IntWalk.i64_in]); try with_reducible rfl)); simp only [Act.put, List.setIfInBounds_toArray, List.set_cons_zero, List.set_cons_succ]) | (refine qs_skip (by rfl) ?_; simp only [Act.put, List.setIfInBounds_toArray, List.set_cons_zero, List.set_cons_succ])))
        refine qs_act ?_
        go_wp2_with (go_at_call 78; refine (cmp_any p e _ HPS.out HSE.out).mono ?_; rintro ev w1 ⟨rfl, hb1⟩)
        refine ⟨fun h => h.elim, ?_⟩
        (repeat (first | ((first | (refine qs_row (by rfl) 56 _ (by rfl) g (h * 73) (by rfl) (itC (itP p)) _ (fun j w2 h1 h2 h => (h (by omega)).1) Tryz.underlying56 rfl (itC_info _) ?_) | (refine qs_row (by rfl) 56 _ (by rfl) g (a * 73) (by rfl) (itC (itP e)) _ (fun j w2 h1 h2 h => (h (by omega)).2) Tryz.underlying56 rfl (itC_info _) ?_)); simp only [Act.put, List.setIfInBounds_toArray, List.set_cons_zero, List.set_cons_succ]) | (refine qs_now (v := ?_) (by rfl) ?_ ?_; rotate_left 1; (· (intro w' hS; go_simp; (try (simp only [↓IntWalk.iteOmega]; go_simp)); (try simp (disch := omega) only [IntWalk.i64_in]); try with_reducible rfl)); simp only [Act.put, List.setIfInBounds_toArray, List.set_cons_zero, List.set_cons_succ]) | (refine qs_run (v := ?_) (by rfl) ?_ ?_; rotate_left 1; (· (intro j w' hS; go_simp; (try (simp only [↓IntWalk.iteOmega]; go_simp)); (try simp (disch := omega) only [IntWalk.i64_in]); try with_reducible rfl)); simp only [Act.put, List.setIfInBounds_toArray, List.set_cons_zero, List.set_cons_succ]) | (refine qs_mid (v := ?_) (by rfl) ?_ ?_; rotate_left 1; (· (intro j w' hj1 hj2 hS; go_simp; (try (simp only [↓IntWalk.iteOmega]; go_simp)); (try simp (disch := omega) only [IntWalk.i64_in]); try with_reducible rfl)); simp only [Act.put, List.setIfInBounds_toArray, List.set_cons_zero, List.set_cons_succ]) | (refine qs_skip (by rfl) ?_; simp only [Act.put, List.setIfInBounds_toArray, List.set_cons_zero, List.set_cons_succ])))
        refine qs_nil ?_
        clear c1 d1
        have HR1 := Lib.hid (HR.out.drew.grown hb1)
        have HG1 := Lib.hid (grown_below (grown_drew HG.out) hb1)
        clear hb1
        go_wp2_with fail
        go_roundw
        case rel => exact ⟨h + 1, r, by go_num, rfl, bs_yes HBs.out HMon.out hh1 hh2 (by simp only [decide_eq_true_eq]; rw [key_some HP.out]; omega), HR1.out, HG1.out⟩
        case measure => simp [intOf]; omega
      · have hdc : decide (p.1 - e.1 < 0) = false := by simp; omega
        go_wp2_with fail
        refine wp_region_qs (fun k w' => k = 0 → w'.rangeAt g (h * 73) (itC (itP p)) ∧ w'.rangeAt g (a * 73) (itC (itP e)))
          [(0, some 0), (1, some 1), (2, some 1), (3, some 1), (4, some 0), (5, some 1), (6, some 1), (7, some 1), (8, some 0), (9, none), (10, some 1)] (by kernel_rfl) (by kernel_rfl) (by kernel_rfl) (by kernel_rfl) (by kernel_rfl) (fun _ _ _ _ _ h => h) (fun _ => ⟨c1.out, d1.out⟩) ?_
        simp only [List.map_cons, List.map_nil, List.getD_cons_succ, List.getD_cons_zero]
        (repeat (first | ((first | (refine qs_row (by rfl) 56 _ (by rfl) g (h * 73) (by rfl) (itC (itP p)) _ (fun j w2 h1 h2 h => (h (by omega)).1) Tryz.underlying56 rfl (itC_info _) ?_) | (refine qs_row (by rfl) 56 _ (by rfl) g (a * 73) (by rfl) (itC (itP e)) _ (fun j w2 h1 h2 h => (h (by omega)).2) Tryz.underlying56 rfl (itC_info _) ?_)); simp only [Act.put, List.setIfInBounds_toArray, List.set_cons_zero, List.set_cons_succ]) | (refine qs_now (v := ?_) (by rfl) ?_ ?_; rotate_left 1; (· (intro w' hS; go_simp; (try (simp only [↓IntWalk.iteOmega]; go_simp)); (try simp (disch := omega) only [IntWalk.i64_in]); try with_reducible rfl)); simp only [Act.put, List.setIfInBounds_toArray, List.set_cons_zero, List.set_cons_succ]) | (refine qs_run (v := ?_) (by rfl) ?_ ?_; rotate_left 1; (· (intro j w' hS; go_simp; (try (simp only [↓IntWalk.iteOmega]; go_simp)); (try simp (disch := omega) only [IntWalk.i64_in]); try with_reducible rfl)); simp only [Act.put, List.setIfInBounds_toArray, List.set_cons_zero, List.set_cons_succ]) | (refine qs_mid (v := ?_) (by rfl) ?_ ?_; rotate_left 1; (· (intro j w' hj1 hj2 hS; go_simp; (try (simp only [↓IntWalk.iteOmega]; go_simp)); (try simp (disch := omega) only [IntWalk.i64_in]); try with_reducible rfl)); simp only [Act.put, List.setIfInBounds_toArray, List.set_cons_zero, List.set_cons_succ]) | (refine qs_skip (by rfl) ?_; simp only [Act.put, List.setIfInBounds_toArray, List.set_cons_zero, List.set_cons_succ])))
        refine qs_act ?_
        go_wp2_with (go_at_call 78; refine (cmp_any p e _ HPS.out HSE.out).mono ?_; rintro ev w1 ⟨rfl, hb1⟩)
        refine ⟨fun h => h.elim, ?_⟩
        (repeat (first | ((first | (refine qs_row (by rfl) 56 _ (by rfl) g (h * 73) (by rfl) (itC (itP p)) _ (fun j w2 h1 h2 h => (h (by omega)).1) Tryz.underlying56 rfl (itC_info _) ?_) | (refine qs_row (by rfl) 56 _ (by rfl) g (a * 73) (by rfl) (itC (itP e)) _ (fun j w2 h1 h2 h => (h (by omega)).2) Tryz.underlying56 rfl (itC_info _) ?_)); simp only [Act.put, List.setIfInBounds_toArray, List.set_cons_zero, List.set_cons_succ]) | (refine qs_now (v := ?_) (by rfl) ?_ ?_; rotate_left 1; (· (intro w' hS; go_simp; (try (simp only [↓IntWalk.iteOmega]; go_simp)); (try simp (disch := omega) only [IntWalk.i64_in]); try with_reducible rfl)); simp only [Act.put, List.setIfInBounds_toArray, List.set_cons_zero, List.set_cons_succ]) | (refine qs_run (v := ?_) (by rfl) ?_ ?_; rotate_left 1; (· (intro j w' hS; go_simp; (try (simp only [↓IntWalk.iteOmega]; go_simp)); (try simp (disch := omega) only [IntWalk.i64_in]); try with_reducible rfl)); simp only [Act.put, List.setIfInBounds_toArray, List.set_cons_zero, List.set_cons_succ]) | (refine qs_mid (v := ?_) (by rfl) ?_ ?_; rotate_left 1; (· (intro j w' hj1 hj2 hS; go_simp; (try (simp only [↓IntWalk.iteOmega]; go_simp)); (try simp (disch := omega) only [IntWalk.i64_in]); try with_reducible rfl)); simp only [Act.put, List.setIfInBounds_toArray, List.set_cons_zero, List.set_cons_succ]) | (refine qs_skip (by rfl) ?_; simp only [Act.put, List.setIfInBounds_toArray, List.set_cons_zero, List.set_cons_succ])))
        refine qs_nil ?_
        clear c1 d1
        have HR1 := Lib.hid (HR.out.drew.grown hb1)
        have HG1 := Lib.hid (grown_below (grown_drew HG.out) hb1)
        clear hb1
        go_wp2_with fail
        go_roundw
        case rel => exact ⟨st, h, rfl, rfl, bs_no HBs.out HMon.out hh1 hh2 (by simp only [decide_eq_false_iff_not]; rw [key_some HP.out]; omega), HR1.out, HG1.out⟩
        case measure => simp [intOf]; omega
    · have hltI : ¬ (st : Int) < r := by omega
      obtain rfl : st = r := by omega
      go_wp2_with fail
      go_loopw [13] (SK x v y e a a (st - 1) w g n cap) (fun k _ => n - (intOf k).toNat)
      case atStart => exact ⟨a, by omega, by omega, rfl, by simpa using HR.out, HG.out⟩
      case round =>
        clear HR HG
        obtain ⟨k, hk1, hk2, rfl, hr, hg⟩ := hrel
        have HG := Lib.hid hg
        by_cases hlt2 : k < st - 1
        · have hlt2I : (k : Int) < st - 1 := by omega
          obtain ⟨q, hq1, hq2⟩ := drop_at (l := v) (k := k - a) (by have := HB.out; have := HM.out; omega)
          have eL : x ++ v.take (k - a) ++ e :: (v.drop (k - a) ++ y) = (x ++ v.take (k - a)) ++ e :: ([] ++ q :: (v.drop (k - a + 1) ++ y)) := by rw [hq1]; simp
          have eR : (x ++ v.take (k - a)) ++ q :: ([] ++ e :: (v.drop (k - a + 1) ++ y)) = x ++ v.take (k + 1 - a) ++ e :: (v.drop (k + 1 - a) ++ y) := by rw [show k + 1 - a = k - a + 1 from by omega, hq2]; simp
          have l1 : k = (x ++ v.take (k - a)).length := by
            have h1 := HA.out
            have h2 := HB.out
            have h3 := HM.out
            simp; omega
          rw [eL] at hr
          generalize (x ++ v.take (k - a)) = l0 at *
          generalize (v.drop (k - a + 1) ++ y) = l4 at *
          have c1 := Lib.hid (hr.at_ (at1 l0 _ e k l1))
          have d1 := Lib.hid (hr.at_ (at2 l0 [] l4 e q (k + 1) (by simp; omega)))
          have HR := Lib.hid hr
          have HEq := Lib.hid eR
          have HL1 := Lib.hid l1
          clear hr hg eL eR hq1 hq2 l1
          have i1 : (k : Int) < n := by omega
          have i2 : (k : Int) + 1 < n := by omega
          have t1 : ((k : Int) + 1).toNat = k + 1 := by omega
          go_wp2_with fail
          refine wp_region_qs (fun k' w' => k' = 0 → w'.rangeAt g (k * 73) (itC (itP e)) ∧ w'.rangeAt g ((k + 1) * 73) (itC (itP q)))
            [(0, some 0), (1, some 0), (2, some 1), (3, some 1), (4, some 1), (5, some 0), (6, some 0), (7, some 0), (8, some 0), (9, some 0), (10, some 1), (11, some 1), (12, some 1), (13, some 0), (14, some 0), (15, none), (16, some 1), (17, none)] (by kernel_rfl) (by kernel_rfl) (by kernel_rfl) (by kernel_rfl) (by kernel_rfl) (fun _ _ _ _ _ h => h) (fun _ => ⟨c1.out, d1.out⟩) ?_
          simp only [List.map_cons, List.map_nil, List.getD_cons_succ, List.getD_cons_zero]
          (repeat (first | ((first | (refine qs_row (by rfl) 56 _ (by rfl) g (k * 73) (by rfl) (itC (itP e)) _ (fun j w2 h1 h2 h => (h (by omega)).1) Tryz.underlying56 rfl (itC_info _) ?_) | (refine qs_row (by rfl) 56 _ (by rfl) g ((k + 1) * 73) (by rfl) (itC (itP q)) _ (fun j w2 h1 h2 h => (h (by omega)).2) Tryz.underlying56 rfl (itC_info _) ?_)); simp only [Act.put, List.setIfInBounds_toArray, List.set_cons_zero, List.set_cons_succ]) | (refine qs_now (v := ?_) (by rfl) ?_ ?_; rotate_left 1; (· (intro w' hS; go_simp; (try (simp only [↓IntWalk.iteOmega]; go_simp)); (try simp (disch := omega) only [IntWalk.i64_in]); try with_reducible rfl)); simp only [Act.put, List.setIfInBounds_toArray, List.set_cons_zero, List.set_cons_succ]) | (refine qs_run (v := ?_) (by rfl) ?_ ?_; rotate_left 1; (· (intro j w' hS; go_simp; (try (simp only [↓IntWalk.iteOmega]; go_simp)); (try simp (disch := omega) only [IntWalk.i64_in]); try with_reducible rfl)); simp only [Act.put, List.setIfInBounds_toArray, List.set_cons_zero, List.set_cons_succ]) | (refine qs_mid (v := ?_) (by rfl) ?_ ?_; rotate_left 1; (· (intro j w' hj1 hj2 hS; go_simp; (try (simp only [↓IntWalk.iteOmega]; go_simp)); (try simp (disch := omega) only [IntWalk.i64_in]); try with_reducible rfl)); simp only [Act.put, List.setIfInBounds_toArray, List.set_cons_zero, List.set_cons_succ]) | (refine qs_skip (by rfl) ?_; simp only [Act.put, List.setIfInBounds_toArray, List.set_cons_zero, List.set_cons_succ])))
          have hone := HR.out.one
          have HONE := Lib.hid hone
          have hlen := HR.out.len
          have HLEN := Lib.hid hlen
          clear t1 hone hlen c1 d1
          refine qs_act ?_
          refine prow_store rfl (.tmp 75) (.tmp 70) rfl k q _ rfl rfl rfl HR.out.drew (by rw [HLEN.out]; omega) (HONE.out q (by simp)) ?_
          intro w2 hr2 hg2
          have HR2 := Lib.hid hr2
          have HG2 := Lib.hid ((grown_drew HG.out).trans hg2)
          clear hr2 hg2
          refine wpList_nil ?_
          refine ⟨fun h => (by cases h), ?_⟩
          (repeat (first | ((first | (refine qs_row (by rfl) 56 _ (by rfl) g (k * 73) (by rfl) (itC (itP e)) _ (fun j w2 h1 h2 h => (h (by omega)).1) Tryz.underlying56 rfl (itC_info _) ?_) | (refine qs_row (by rfl) 56 _ (by rfl) g ((k + 1) * 73) (by rfl) (itC (itP q)) _ (fun j w2 h1 h2 h => (h (by omega)).2) Tryz.underlying56 rfl (itC_info _) ?_)); simp only [Act.put, List.setIfInBounds_toArray, List.set_cons_zero, List.set_cons_succ]) | (refine qs_now (v := ?_) (by rfl) ?_ ?_; rotate_left 1; (· (intro w' hS; go_simp; (try (simp only [↓IntWalk.iteOmega]; go_simp)); (try simp (disch := omega) only [IntWalk.i64_in]); try with_reducible rfl)); simp only [Act.put, List.setIfInBounds_toArray, List.set_cons_zero, List.set_cons_succ]) | (refine qs_run (v := ?_) (by rfl) ?_ ?_; rotate_left 1; (· (intro j w' hS; go_simp; (try (simp only [↓IntWalk.iteOmega]; go_simp)); (try simp (disch := omega) only [IntWalk.i64_in]); try with_reducible rfl)); simp only [Act.put, List.setIfInBounds_toArray, List.set_cons_zero, List.set_cons_succ]) | (refine qs_mid (v := ?_) (by rfl) ?_ ?_; rotate_left 1; (· (intro j w' hj1 hj2 hS; go_simp; (try (simp only [↓IntWalk.iteOmega]; go_simp)); (try simp (disch := omega) only [IntWalk.i64_in]); try with_reducible rfl)); simp only [Act.put, List.setIfInBounds_toArray, List.set_cons_zero, List.set_cons_succ]) | (refine qs_skip (by rfl) ?_; simp only [Act.put, List.setIfInBounds_toArray, List.set_cons_zero, List.set_cons_succ])))
          refine qs_act ?_
          refine prow_store rfl (.tmp 76) (.tmp 74) rfl (k + 1) e _ rfl rfl rfl HR2.out (by rw [List.length_set, HLEN.out]; omega) (HONE.out e (by simp)) ?_
          intro w3 hr3 hg3
          have HR3 := Lib.hid hr3
          have HG3 := Lib.hid (HG2.out.trans hg3)
          clear hr3 hg3
          refine wpList_nil ?_
          refine ⟨fun h => (by cases h), ?_⟩
          refine qs_nil ?_
          go_wp2_with fail
          go_roundw
          case rel =>
            refine ⟨k + 1, by omega, by omega, by go_num, ?_, HG3.out⟩
            have := HR3.out
            rw [set2 l0 [] l4 e q _ _ HL1.out (by have := HL1.out; simp; omega), HEq.out] at this
            exact this
          case measure => simp [intOf]; omega
        · have hlt2I : ¬ (k : Int) < st - 1 := by omega
          obtain rfl : k = st - 1 := by omega
          have HR := Lib.hid hr
          clear hr hg
          go_wp2_with fail
          go_end0
          have e1 : x ++ [e] ++ (v ++ y) = (x ++ [e]) ++ v ++ y := by simp
          have h1 := HA.out
          have h2 := HM.out
          have h3 := HB.out
          obtain ⟨_, _, _, hB4, hB5⟩ := HBs.out
          obtain ⟨s1, s2⟩ := one_ahead (e := e) HV.out (k := st - 1 - a) (fun p hp => by
              obtain ⟨i, i1, i2, i3, i4⟩ := mem_take_place (x := x ++ [e]) (r := y) hp
              simp only [List.length_append, List.length_singleton] at i1 i2 i3
              have := hB4 i (by omega) (by omega)
              simp only [decide_eq_true_eq] at this
              rw [e1, i4] at this; exact this) (fun p hp => by
              obtain ⟨i, i1, i2, i3⟩ := mem_drop_place (x := x ++ [e]) (r := y) (by omega) hp
              simp only [List.length_append, List.length_singleton] at i1 i2
              have := hB5 i (by omega) (by omega)
              simp only [decide_eq_false_iff_not] at this
              rw [e1, i3] at this; omega)
          exact ⟨rfl, _, s1, s2, by simpa using HR.out, HG.out⟩

set_option maxRecDepth 100000 in
set_option maxHeartbeats 3200000 in
theorem sym_right (x u y : List PV) (e : PV) (w : World) (g n cap a m b : Nat) (hrow : PRow w g n cap (x ++ u ++ ([e] ++ y))) (ha : a = x.length) (hm : m = a + u.length) (hb : b = m + 1) (hu : Srt u) (hu2 : u.length ≠ 1) (hn : n ≤ 35184372088832) (hsm : ∀ p ∈ u ++ [e], Small p.1) :
    Calls Tryz.prog 131 #[.slice (some ⟨g, 0, none⟩) n cap, .int .i64 a, .int .i64 m, .int .i64 b, .func (.func 78) #[] #[]] w (MergedPost x u [e] y w g n cap) := by
  have hlen := hrow.len
  simp only [List.length_append, List.length_singleton] at hlen
  have hbn : b ≤ n := by omega
  have ham : a ≤ m := by omega
  have hmb : m < b := by omega
  have h0 : ((m : Int) - a == 1) = false := by simp; omega
  have h1 : (b : Int) - m = 1 := by omega
  have hA : (x ++ u ++ ([e] ++ y))[m]? = some e := by rw [hm, ha, ← List.length_append]; simp
  have HE := Lib.hid hA
  have HRow := Lib.hid hrow
  have HA := Lib.hid ha
  have HM := Lib.hid hm
  have HB := Lib.hid hb
  have HU := Lib.hid hu
  have HS := Lib.hid hsm
  have hmon : Mon (fun h => decide (keyAt (x ++ u ++ ([e] ++ y)) h ≤ e.1)) a m := by
    intro c d h1 h2 h3 h4
    simp only [decide_eq_true_eq] at h4 ⊢
    have := key_mono (x := x) (u := u) (r := [e] ++ y) hu (i := c) (j := d) (by omega) h2 (by omega)
    omega
  have HMon := Lib.hid hmon
  have hse : Small e.1 := hsm e (by simp)
  have HSE := Lib.hid hse
  unfold Small at hse
  clear hlen hrow ha hm hb hu hsm hmon hA hu2
  go_enter Tryz.func131, Tryz.ntmps131
  go_wp2_with fail
  clear h0 h1
  go_loopw [14, 15] (SS (fun h => decide (keyAt (x ++ u ++ ([e] ++ y)) h ≤ e.1)) (x ++ u ++ ([e] ++ y)) a m w g n cap) (fun i j _ => (intOf j).toNat - (intOf i).toNat)
  case atStart => exact ⟨a, m, rfl, rfl, bs_start ham, HRow.out, World.grownBy.refl _ _⟩
  case round =>
    obtain ⟨st, r, rfl, rfl, hbs, hr, hg⟩ := hrel
    have HBs := Lib.hid hbs
    have HR := Lib.hid hr
    have HG := Lib.hid hg
    obtain ⟨hb1, hb2, hb3, _, _⟩ := hbs
    clear hr hg
    by_cases hlt : st < r
    · have hltI : (st : Int) < r := by omega
      obtain ⟨hh1, hh2⟩ := half hlt
      obtain ⟨h, hh⟩ : ∃ h, h = (st + r) / 2 := ⟨_, rfl⟩
      rw [← hh] at hh1 hh2
      have hhI : ((st : Int) + r) / 2 = h := by omega
      have hhn : h < n := by omega
      have hhnI : (h : Int) < n := by omega
      have haI : (m : Int) < n := by omega
      clear hh
      obtain ⟨p, hp⟩ : ∃ p, (x ++ u ++ ([e] ++ y))[h]? = some p := ⟨_, List.getElem?_eq_getElem (by rw [HR.out.len]; exact hhn)⟩
      have HP := Lib.hid hp
      have hps : Small p.1 := HS.out p (by
        have h2 := HA.out
        have h3 := HM.out
        exact List.mem_append_left _ (mem_seg hp (by omega) (by omega)))
      have HPS := Lib.hid hps
      unfold Small at hps
      have c1 := Lib.hid (HR.out.at_ hp)
      have d1 := Lib.hid (HR.out.at_ HE.out)
      clear hp
      by_cases hcmp : e.1 < p.1
      · have hdc : decide (e.1 - p.1 < 0) = true := by simp; omega
        go_wp2_with fail
        refine wp_region_qs (fun k w' => k = 0 → w'.rangeAt g (h * 73) (itC (itP p)) ∧ w'.rangeAt g (m * 73) (itC (itP e)))
          [(0, some 0), (1, some 1), (2, some 1), (3, some 1), (4, some 0), (5, some 1), (6, some 1), (7, some 1), (8, some 0), (9, none), (10, some 1), (11, some 1)] (by kernel_rfl) (by kernel_rfl) (by kernel_rfl) (by kernel_rfl) (by kernel_rfl) (fun _ _ _ _ _ h => h) (fun _ => ⟨c1.out, d1.out⟩) ?_
        simp only [List.map_cons, List.map_nil, List.getD_cons_succ, List.getD_cons_zero]
        (repeat (first | ((first | (refine qs_row (by rfl) 56 _ (by rfl) g (h * 73) (by rfl) (itC (itP p)) _ (fun j w2 h1 h2 h => (h (by omega)).1) Tryz.underlying56 rfl (itC_info _) ?_) | (refine qs_row (by rfl) 56 _ (by rfl) g (m * 73) (by rfl) (itC (itP e)) _ (fun j w2 h1 h2 h => (h (by omega)).2) Tryz.underlying56 rfl (itC_info _) ?_)); simp only [Act.put, List.setIfInBounds_toArray, List.set_cons_zero, List.set_cons_succ]) | (refine qs_now (v := ?_) (by rfl) ?_ ?_; rotate_left 1; (· (intro w' hS; go_simp; (try (simp only [↓IntWalk.iteOmega]; go_simp)); (try simp (disch := omega) only [IntWalk.i64_in]); try with_reducible rfl)); simp only [Act.put, List.setIfInBounds_toArray, List.set_cons_zero, List.set_cons_succ]) | (refine qs_run (v := ?_) (by rfl) ?_ ?_; rotate_left 1; (· (intro j w' hS; go_simp; (try (simp only [↓IntWalk.iteOmega]; go_simp)); (try simp (disch := omega) only [IntWalk.i64_in]); try with_reducible rfl)); simp only [Act.put, List.setIfInBounds_toArray, List.set_cons_zero, List.set_cons_succ]) | (refine qs_mid (v := ?_) (by rfl) ?_ ?_; rotate_left 1; (· (intro j w' hj1 hj2 hS; go_simp; (try (simp only [↓IntWalk.iteOmega]; go_simp)); (try simp (disch := omega) only [IntWalk.i64_in]); try with_reducible rfl)); simp only [Act.put, List.setIfInBounds_toArray, List.set_cons_zero, List.set_cons_succ]) | (refine qs_skip (by rfl) ?_; simp only [Act.put, List.setIfInBounds_toArray, List.set_cons_zero, List.set_cons_succ])))
        refine qs_act ?_
        go_wp2_with (go_at_call 78; refine (cmp_any e p _ HSE.out HPS.out).mono ?_; rintro ev w1 ⟨rfl, hb1⟩)
        refine ⟨fun h => h.elim, ?_⟩
        (repeat (first | ((first | (refine qs_row (by rfl) 56 _ (by rfl) g (h * 73) (by rfl) (itC (itP p)) _ (fun j w2 h1 h2 h => (h (by omega)).1) Tryz.underlying56 rfl (itC_info _) ?_) | (refine qs_row (by rfl) 56 _ (by rfl) g (m * 73) (by rfl) (itC (itP e)) _ (fun j w2 h1 h2 h => (h (by omega)).2) Tryz.underlying56 rfl (itC_info _) ?_)); simp only [Act.put, List.setIfInBounds_toArray, List.set_cons_zero, List.set_cons_succ]) | (refine qs_now (v := ?_) (by rfl) ?_ ?_; rotate_left 1; (· (intro w' hS; go_simp; (try (simp only [↓IntWalk.iteOmega]; go_simp)); (try simp (disch := omega) only [IntWalk.i64_in]); try with_reducible rfl)); simp only [Act.put, List.setIfInBounds_toArray, List.set_cons_zero, List.set_cons_succ]) | (refine qs_run (v := ?_) (by rfl) ?_ ?_; rotate_left 1; (· (intro j w' hS; go_simp; (try (simp only [↓IntWalk.iteOmega]; go_simp)); (try simp (disch := omega) only [IntWalk.i64_in]); try with_reducible rfl)); simp only [Act.put, List.setIfInBounds_toArray, List.set_cons_zero, List.set_cons_succ]) | (refine qs_mid (v := ?_) (by rfl) ?_ ?_; rotate_left 1; (· (intro j w' hj1 hj2 hS; go_simp; (try (simp only [↓IntWalk.iteOmega]; go_simp)); (try simp (disch := omega) only [IntWalk.i64_in]); try with_reducible rfl)); simp only [Act.put, List.setIfInBounds_toArray, List.set_cons_zero, List.set_cons_succ]) | (refine qs_skip (by rfl) ?_; simp only [Act.put, List.setIfInBounds_toArray, List.set_cons_zero, List.set_cons_succ])))
        refine qs_nil ?_
        clear c1 d1
        have HR1 := Lib.hid (HR.out.drew.grown hb1)
        have HG1 := Lib.hid (grown_below (grown_drew HG.out) hb1)
        clear hb1
        go_wp2_with fail
        go_roundw
        case rel =>
          exact ⟨st, h, rfl, rfl, bs_no HBs.out HMon.out hh1 hh2 (by simp only [decide_eq_false_iff_not]; rw [key_some HP.out]; omega), HR1.out, HG1.out⟩
        case measure => simp [intOf]; omega
      · have hdc : decide (e.1 - p.1 < 0) = false := by simp; omega
        go_wp2_with fail
        refine wp_region_qs (fun k w' => k = 0 → w'.rangeAt g (h * 73) (itC (itP p)) ∧ w'.rangeAt g (m * 73) (itC (itP e)))
          [(0, some 0), (1, some 1), (2, some 1), (3, some 1), (4, some 0), (5, some 1), (6, some 1), (7, some 1), (8, some 0), (9, none), (10, some 1), (11, some 1)] (by kernel_rfl) (by kernel_rfl) (by kernel_rfl) (by kernel_rfl) (by kernel_rfl) (fun _ _ _ _ _ h => h) (fun _ => ⟨c1.out, d1.out⟩) ?_
        simp only [List.map_cons, List.map_nil, List.getD_cons_succ, List.getD_cons_zero]
        (repeat (first | ((first | (refine qs_row (by rfl) 56 _ (by rfl) g (h * 73) (by rfl) (itC (itP p)) _ (fun j w2 h1 h2 h => (h (by omega)).1) Tryz.underlying56 rfl (itC_info _) ?_) | (refine qs_row (by rfl) 56 _ (by rfl) g (m * 73) (by rfl) (itC (itP e)) _ (fun j w2 h1 h2 h => (h (by omega)).2) Tryz.underlying56 rfl (itC_info _) ?_)); simp only [Act.put, List.setIfInBounds_toArray, List.set_cons_zero, List.set_cons_succ]) | (refine qs_now (v := ?_) (by rfl) ?_ ?_; rotate_left 1; (· (intro w' hS; go_simp; (try (simp only [↓IntWalk.iteOmega]; go_simp)); (try simp (disch := omega) only [IntWalk.i64_in]); try with_reducible rfl)); simp only [Act.put, List.setIfInBounds_toArray, List.set_cons_zero, List.set_cons_succ]) | (refine qs_run (v := ?_) (by rfl) ?_ ?_; rotate_left 1; (· (intro j w' hS; go_simp; (try (simp only [↓IntWalk.iteOmega]; go_simp)); (try simp (disch := omega) only [IntWalk.i64_in]); try with_reducible rfl)); simp only [Act.put, List.setIfInBounds_toArray, List.set_cons_zero, List.set_cons_succ]) | (refine qs_mid (v := ?_) (by rfl) ?_ ?_; rotate_left 1; (· (intro j w' hj1 hj2 hS; go_simp; (try (simp only [↓IntWalk.iteOmega]; go_simp)); (try simp (disch := omega) only [IntWalk.i64_in]); try with_reducible rfl)); simp only [Act.put, List.setIfInBounds_toArray, List.set_cons_zero, List.set_cons_succ]) | (refine qs_skip (by rfl) ?_; simp only [Act.put, List.setIfInBounds_toArray, List.set_cons_zero, List.set_cons_succ])))
        refine qs_act ?_
        go_wp2_with (go_at_call 78; refine (cmp_any e p _ HSE.out HPS.out).mono ?_; rintro ev w1 ⟨rfl, hb1⟩)
        refine ⟨fun h => h.elim, ?_⟩
        (repeat (first | ((first | (refine qs_row (by rfl) 56 _ (by rfl) g (h * 73) (by rfl) (itC (itP p)) _ (fun j w2 h1 h2 h => (h (by omega)).1) Tryz.underlying56 rfl (itC_info _) ?_) | (refine qs_row (by rfl) 56 _ (by rfl) g (m * 73) (by rfl) (itC (itP e)) _ (fun j w2 h1 h2 h => (h (by omega)).2) Tryz.underlying56 rfl (itC_info _) ?_)); simp only [Act.put, List.setIfInBounds_toArray, List.set_cons_zero, List.set_cons_succ]) | (refine qs_now (v := ?_) (by rfl) ?_ ?_; rotate_left 1; (· (intro w' hS; go_simp; (try (simp only [↓IntWalk.iteOmega]; go_simp)); (try simp (disch := omega) only [IntWalk.i64_in]); try with_reducible rfl)); simp only [Act.put, List.setIfInBounds_toArray, List.set_cons_zero, List.set_cons_succ]) | (refine qs_run (v := ?_) (by rfl) ?_ ?_; rotate_left 1; (· (intro j w' hS; go_simp; (try (simp only [↓IntWalk.iteOmega]; go_simp)); (try simp (disch := omega) only [IntWalk.i64_in]); try with_reducible rfl)); simp only [Act.put, List.setIfInBounds_toArray, List.set_cons_zero, List.set_cons_succ]) | (refine qs_mid (v := ?_) (by rfl) ?_ ?_; rotate_left 1; (· (intro j w' hj1 hj2 hS; go_simp; (try (simp only [↓IntWalk.iteOmega]; go_simp)); (try simp (disch := omega) only [IntWalk.i64_in]); try with_reducible rfl)); simp only [Act.put, List.setIfInBounds_toArray, List.set_cons_zero, List.set_cons_succ]) | (refine qs_skip (by rfl) ?_; simp only [Act.put, List.setIfInBounds_toArray, List.set_cons_zero, List.set_cons_succ])))
        refine qs_nil ?_
        clear c1 d1
        have HR1 := Lib.hid (HR.out.drew.grown hb1)
        have HG1 := Lib.hid (grown_below (grown_drew HG.out) hb1)
        clear hb1
        go_wp2_with fail
        go_roundw
        case rel => exact ⟨h + 1, r, by go_num, rfl, bs_yes HBs.out HMon.out hh1 hh2 (by simp only [decide_eq_true_eq]; rw [key_some HP.out]; omega), HR1.out, HG1.out⟩
        case measure => simp [intOf]; omega
    · have hltI : ¬ (st : Int) < r := by omega
      obtain rfl : st = r := by omega
      go_wp2_with fail
      go_loopw [17] (SK x u y e a st m w g n cap) (fun k _ => (intOf k).toNat)
      case atStart =>
        refine ⟨m, by omega, by omega, rfl, ?_, HG.out⟩
        have h1 := HM.out
        rw [List.take_of_length_le (by omega), List.drop_of_length_le (by omega)]
        simpa using HR.out
      case round =>
        clear HR HG
        obtain ⟨k, hk1, hk2, rfl, hr, hg⟩ := hrel
        have HG := Lib.hid hg
        by_cases hlt2 : st < k
        · have hlt2I : (st : Int) < k := by omega
          obtain ⟨q, hq1, hq2⟩ := drop_at (l := u) (k := k - 1 - a) (by have := HM.out; omega)
          rw [show k - 1 - a + 1 = k - a from by omega] at hq1 hq2
          have eL : x ++ u.take (k - a) ++ e :: (u.drop (k - a) ++ y) = (x ++ u.take (k - 1 - a)) ++ q :: ([] ++ e :: (u.drop (k - a) ++ y)) := by rw [hq2]; simp
          have eR : (x ++ u.take (k - 1 - a)) ++ e :: ([] ++ q :: (u.drop (k - a) ++ y)) = x ++ u.take (k - 1 - a) ++ e :: (u.drop (k - 1 - a) ++ y) := by rw [hq1]; simp
          have l1 : k - 1 = (x ++ u.take (k - 1 - a)).length := by
            have h1 := HA.out
            have h2 := HM.out
            simp; omega
          rw [eL] at hr
          have HEq := Lib.hid eR
          obtain ⟨l0, hl0⟩ : ∃ l0, l0 = x ++ u.take (k - 1 - a) := ⟨_, rfl⟩
          rw [← hl0] at hr HEq l1
          have HL0 := Lib.hid hl0
          clear eL eR hl0
          generalize (u.drop (k - a) ++ y) = l4 at *
          have c1 := Lib.hid (hr.at_ (at1 l0 _ q (k - 1) l1))
          have d1 := Lib.hid (hr.at_ (at2 l0 [] l4 q e k (by simp; omega)))
          have HR := Lib.hid hr
          have HL1 := Lib.hid l1
          clear hr hg hq1 hq2 l1
          have i1 : (k : Int) < n := by omega
          have i2 : (k : Int) - 1 < n := by omega
          have i3 : (1 : Int) ≤ k := by omega
          go_wp2_with fail
          refine wp_region_qs (fun k' w' => k' = 0 → w'.rangeAt g ((k - 1) * 73) (itC (itP q)) ∧ w'.rangeAt g (k * 73) (itC (itP e)))
            [(0, some 0), (1, some 0), (2, some 1), (3, some 1), (4, some 1), (5, some 0), (6, some 0), (7, some 0), (8, some 0), (9, some 0), (10, some 1), (11, some 1), (12, some 1), (13, some 0), (14, some 0), (15, none), (16, some 1), (17, none)] (by kernel_rfl) (by kernel_rfl) (by kernel_rfl) (by kernel_rfl) (by kernel_rfl) (fun _ _ _ _ _ h => h) (fun _ => ⟨c1.out, d1.out⟩) ?_
          simp only [List.map_cons, List.map_nil, List.getD_cons_succ, List.getD_cons_zero]
          (repeat (first | ((first | (refine qs_row (by rfl) 56 _ (by rfl) g ((k - 1) * 73) (by rfl) (itC (itP q)) _ (fun j w2 h1 h2 h => (h (by omega)).1) Tryz.underlying56 rfl (itC_info _) ?_) | (refine qs_row (by rfl) 56 _ (by rfl) g (k * 73) (by rfl) (itC (itP e)) _ (fun j w2 h1 h2 h => (h (by omega)).2) Tryz.underlying56 rfl (itC_info _) ?_)); simp only [Act.put, List.setIfInBounds_toArray, List.set_cons_zero, List.set_cons_succ]) | (refine qs_now (v := ?_) (by rfl) ?_ ?_; rotate_left 1; (· (intro w' hS; go_simp; (try (simp only [↓IntWalk.iteOmega]; go_simp)); (try simp (disch := omega) only [IntWalk.i64_in]); try with_reducible rfl)); simp only [Act.put, List.setIfInBounds_toArray, List.set_cons_zero, List.set_cons_succ]) | (refine qs_run (v := ?_) (by rfl) ?_ ?_; rotate_left 1; (· (intro j w' hS; go_simp; (try (simp only [↓IntWalk.iteOmega]; go_simp)); (try simp (disch := omega) only [IntWalk.i64_in]); try with_reducible rfl)); simp only [Act.put, List.setIfInBounds_toArray, List.set_cons_zero, List.set_cons_succ]) | (refine qs_mid (v := ?_) (by rfl) ?_ ?_; rotate_left 1; (· (intro j w' hj1 hj2 hS; go_simp; (try (simp only [↓IntWalk.iteOmega]; go_simp)); (try simp (disch := omega) only [IntWalk.i64_in]); try with_reducible rfl)); simp only [Act.put, List.setIfInBounds_toArray, List.set_cons_zero, List.set_cons_succ]) | (refine qs_skip (by rfl) ?_; simp only [Act.put, List.setIfInBounds_toArray, List.set_cons_zero, List.set_cons_succ])))
          have hone := HR.out.one
          have HONE := Lib.hid hone
          have hlen := HR.out.len
          have HLEN := Lib.hid hlen
          clear hone hlen c1 d1
          refine qs_act ?_
          refine prow_store rfl (.tmp 127) (.tmp 122) rfl k q _ rfl rfl rfl HR.out.drew (by rw [HLEN.out]; omega) (HONE.out q (by simp)) ?_
          intro w2 hr2 hg2
          have HR2 := Lib.hid hr2
          have HG2 := Lib.hid ((grown_drew HG.out).trans hg2)
          clear hr2 hg2
          refine wpList_nil ?_
          refine ⟨fun h => (by cases h), ?_⟩
          (repeat (first | ((first | (refine qs_row (by rfl) 56 _ (by rfl) g ((k - 1) * 73) (by rfl) (itC (itP q)) _ (fun j w2 h1 h2 h => (h (by omega)).1) Tryz.underlying56 rfl (itC_info _) ?_) | (refine qs_row (by rfl) 56 _ (by rfl) g (k * 73) (by rfl) (itC (itP e)) _ (fun j w2 h1 h2 h => (h (by omega)).2) Tryz.underlying56 rfl (itC_info _) ?_)); simp only [Act.put, List.setIfInBounds_toArray, List.set_cons_zero, List.set_cons_succ]) | (refine qs_now (v := ?_) (by rfl) ?_ ?_; rotate_left 1; (· (intro w' hS; go_simp; (try (simp only [↓IntWalk.iteOmega]; go_simp)); (try simp (disch := omega) only [IntWalk.i64_in]); try with_reducible rfl)); simp only [Act.put, List.setIfInBounds_toArray, List.set_cons_zero, List.set_cons_succ]) | (refine qs_run (v := ?_) (by rfl) ?_ ?_; rotate_left 1; (· (intro j w' hS; go_simp; (try (simp only [↓IntWalk.iteOmega]; go_simp)); (try simp (disch := omega) only [IntWalk.i64_in]); try with_reducible rfl)); simp only [Act.put, List.setIfInBounds_toArray, List.set_cons_zero, List.set_cons_succ]) | (refine qs_mid (v := ?_) (by rfl) ?_ ?_; rotate_left 1; (· (intro j w' hj1 hj2 hS; go_simp; (try (simp only [↓IntWalk.iteOmega]; go_simp)); (try simp (disch := omega) only [IntWalk.i64_in]); try with_reducible rfl)); simp only [Act.put, List.setIfInBounds_toArray, List.set_cons_zero, List.set_cons_succ]) | (refine qs_skip (by rfl) ?_; simp only [Act.put, List.setIfInBounds_toArray, List.set_cons_zero, List.set_cons_succ])))
          refine qs_act ?_
          refine prow_store rfl (.tmp 128) (.tmp 126) rfl (k - 1) e _ rfl rfl rfl HR2.out (by rw [List.length_set, HLEN.out]; omega) (HONE.out e (by simp)) ?_
          intro w3 hr3 hg3
          have HR3 := Lib.hid hr3
          have HG3 := Lib.hid (HG2.out.trans hg3)
          clear hr3 hg3
          refine wpList_nil ?_
          refine ⟨fun h => (by cases h), ?_⟩
          refine qs_nil ?_
          go_wp2_with fail
          go_roundw
          case rel =>
            refine ⟨k - 1, by omega, by omega, by go_num, ?_, HG3.out⟩
            have := HR3.out
            rw [set2' l0 [] l4 q e _ _ HL1.out (by have := HL1.out; simp; omega)] at this
            rw [HEq.out, HL0.out] at this
            exact this
          case measure => simp [intOf]; omega
        · have hlt2I : ¬ (st : Int) < k := by omega
          obtain rfl : k = st := by omega
          have HR := Lib.hid hr
          clear hr hg
          go_wp2_with fail
          go_end0
          have h1 := HA.out
          have h2 := HM.out
          obtain ⟨_, _, _, hB4, hB5⟩ := HBs.out
          obtain ⟨s1, s2⟩ := one_behind (e := e) HU.out (k := k - a) (fun p hp => by
              obtain ⟨i, i1, i2, i3, i4⟩ := mem_take_place (x := x) (r := [e] ++ y) hp
              have := hB4 i (by omega) (by omega)
              simp only [decide_eq_true_eq] at this
              rw [i4] at this; exact this) (fun p hp => by
              obtain ⟨i, i1, i2, i3⟩ := mem_drop_place (x := x) (r := [e] ++ y) (by omega) hp
              have := hB5 i (by omega) (by omega)
              simp only [decide_eq_false_iff_not] at this
              rw [i3] at this; omega)
          exact ⟨rfl, _, s1, s2, by simpa using HR.out, HG.out⟩
end Go.Proofs.YtgjjdfhoakailaaGreat
namespace Go.Proofs.YtgjjdfhoakailaaGreat
open Go.RowKit Go.Maps Go.Sort Go.Shelf
set_option linter.unusedVariables false
set_option linter.unusedSimpArgs false

/-- What is asked of rows that are shorter. -/
def SymSaid (N : Nat) : Prop := ∀ (x u v y : List PV) (w : World) (g n cap a m b : Nat), u.length + v.length ≤ N → 0 < u.length → 0 < v.length → Srt u → Srt v → PRow w g n cap (x ++ u ++ (v ++ y)) → a = x.length → m = a + u.length → b = m + v.length →
  n ≤ 35184372088832 → (∀ p ∈ u ++ v, Small p.1) →
  Calls Tryz.prog 131 #[.slice (some ⟨g, 0, none⟩) n cap, .int .i64 a, .int .i64 m, .int .i64 b, .func (.func 78) #[] #[]] w (MergedPost x u v y w g n cap)

theorem srt_one {u v : List PV} (hu : Srt u) (hv : Srt v) (h : u.length = 0 ∨ v.length = 0) : Srt (u ++ v) := by
  rcases h with h | h
  · rw [List.eq_nil_of_length_eq_zero h]; exact hv
  · rw [List.eq_nil_of_length_eq_zero h, List.append_nil]; exact hu
theorem srt_take {u : List PV} (hu : Srt u) (k : Nat) : Srt (u.take k) ∧ Srt (u.drop k) ∧ ∀ p ∈ u.take k, ∀ q ∈ u.drop k, p.1 ≤ q.1 := by
  have h : Srt (u.take k ++ u.drop k) := by rw [List.take_append_drop]; exact hu
  exact srt_append h
/-- The cuts of the middle. -/
structure Cuts (x u v y : List PV) (a m b mid st en : Nat) : Prop where
  st1 : a ≤ st
  st2 : st ≤ mid
  st3 : st ≤ m
  en1 : m ≤ en
  en2 : en ≤ b
  en3 : en + st = mid + m
  lt : ∀ p ∈ u.drop (st - a), ∀ q ∈ v.take (en - m), q.1 < p.1
  le : ∀ p ∈ u.take (st - a), ∀ q ∈ v.drop (en - m), p.1 ≤ q.1

/-- The left half is merged. -/
def LeftDone (x u v y : List PV) (a m st en : Nat) (w : World) (g n cap : Nat) (w2 : World) : Prop :=
  ∃ s, Srt s ∧ StEq (u.take (st - a) ++ v.take (en - m)) s ∧ PRow w2 g n cap (x ++ s ++ (u.drop (st - a) ++ v.drop (en - m) ++ y)) ∧ w.grownBy w2 (some g)
/-- Where the middle search begins and ends. -/
def StartOk (a m b mid s0 r0 : Nat) : Prop := (mid < m ∧ s0 + b = mid + m ∧ r0 = mid) ∨ (m ≤ mid ∧ s0 = a ∧ r0 = m)
set_option maxRecDepth 100000 in
set_option maxHeartbeats 6400000 in
theorem sym_mid (N : Nat) (ih : SymSaid N) (x u v y : List PV) (w : World) (g n cap a m b : Nat) (hN : u.length + v.length ≤ N + 1) (hu2 : 2 ≤ u.length) (hv2 : 2 ≤ v.length) (hu : Srt u) (hv : Srt v) (hrow : PRow w g n cap (x ++ u ++ (v ++ y))) (ha : a = x.length) (hm : m = a + u.length) (hb : b = m + v.length)
    (hn : n ≤ 35184372088832) (hsm : ∀ p ∈ u ++ v, Small p.1) :
    Calls Tryz.prog 131 #[.slice (some ⟨g, 0, none⟩) n cap, .int .i64 a, .int .i64 m, .int .i64 b, .func (.func 78) #[] #[]] w (MergedPost x u v y w g n cap) := by
  have hlen := hrow.len
  simp only [List.length_append] at hlen
  have hbn : b ≤ n := by omega
  have ham : a + 2 ≤ m := by omega
  have hmb : m + 2 ≤ b := by omega
  have hNN : b - a ≤ N + 1 := by omega
  have h0 : ((m : Int) - a == 1) = false := by simp; omega
  have h1 : ((b : Int) - m == 1) = false := by simp; omega
  obtain ⟨mid, hmid⟩ : ∃ mid, mid = (a + b) / 2 := ⟨_, rfl⟩
  have hmidI : ((a : Int) + b) / 2 = mid := by omega
  have hmid1 : 2 * mid ≤ a + b := by omega
  have hmid2 : a + b ≤ 2 * mid + 1 := by omega
  have HIH := Lib.hid ih
  have HRow := Lib.hid hrow
  have HA := Lib.hid ha
  have HM := Lib.hid hm
  have HB := Lib.hid hb
  have HU := Lib.hid hu
  have HV := Lib.hid hv
  have HSm := Lib.hid hsm
  clear hlen hrow ha hm hb hu hv hsm ih hmid hN hu2 hv2
  go_enter Tryz.func131, Tryz.ntmps131
  go_upto_if 140 with fail
  go_cut [20, 21] (fun s20 s21 wx => ∃ s0 r0 : Nat, s20 = .int .i64 s0 ∧ s21 = .int .i64 r0 ∧ StartOk a m b mid s0 r0 ∧ w = wx)
  case first =>
    as_aux_lemma =>
      rcases Nat.lt_or_ge mid m with hc | hc
      · have hcI : (mid : Int) < m := by omega
        go_wp2_with fail
        go_meet
        exact ⟨mid + m - b, mid, by congr 1; omega, rfl, .inl ⟨hc, by omega, rfl⟩, rfl⟩
      · have hcI : ¬ (mid : Int) < m := by omega
        go_wp2_with fail
        go_meet
        exact ⟨a, m, rfl, rfl, .inr ⟨hc, rfl, rfl⟩, rfl⟩
  case rest =>
  obtain ⟨s0, r0, rfl, rfl, hso, rfl⟩ := hcut
  have HSO := Lib.hid hso
  have HP3 : Hid (∀ c, s0 ≤ c → c < r0 → c ≤ mid + m - 1 ∧ m ≤ mid + m - 1 - c ∧ mid + m - 1 - c < b) := Lib.hid (fun c _ _ => by unfold StartOk at hso; omega)
  have hsr : s0 ≤ r0 := by unfold StartOk at hso; omega
  have ha0 : a ≤ s0 := by unfold StartOk at hso; omega
  have hr0m : r0 ≤ m := by unfold StartOk at hso; omega
  have hr0d : r0 ≤ mid := by unfold StartOk at hso; omega
  have HMon : Hid (Mon (midP (x ++ u ++ (v ++ y)) (mid + m - 1)) s0 r0) := Lib.hid (mid_mon HU.out HV.out (by have := HA.out; omega) (by have := HA.out; have := HM.out; omega) (fun c h1 h2 => by have := HP3.out c h1 h2; have := HA.out; have := HM.out; have := HB.out; omega))
  clear hso h0 h1 hmidI
  go_wp2_with fail
  go_loopw [20, 21] (SS (midP (x ++ u ++ (v ++ y)) (mid + m - 1)) (x ++ u ++ (v ++ y)) s0 r0 w g n cap) (fun i j _ => (intOf j).toNat - (intOf i).toNat)
  case atStart => exact ⟨s0, r0, rfl, rfl, bs_start hsr, HRow.out, World.grownBy.refl _ _⟩
  case round =>
    obtain ⟨st, r, rfl, rfl, hbs, hr, hg⟩ := hrel
    have HBs := Lib.hid hbs
    have HR := Lib.hid hr
    have HG := Lib.hid hg
    obtain ⟨hb1, hb2, hb3, _, _⟩ := hbs
    clear hr hg
    by_cases hlt : st < r
    · have hltI : (st : Int) < r := by omega
      obtain ⟨hh1, hh2⟩ := half hlt
      obtain ⟨h, hh⟩ : ∃ h, h = (st + r) / 2 := ⟨_, rfl⟩
      rw [← hh] at hh1 hh2
      have hhI : ((st : Int) + r) / 2 = h := by omega
      clear hh
      obtain ⟨j1, j2, j3⟩ := HP3.out h (by omega) (by omega)
      obtain ⟨j, hj⟩ : ∃ j, j = mid + m - 1 - h := ⟨_, rfl⟩
      rw [← hj] at j2 j3
      have hjI : (mid : Int) + m - 1 - h = j := by omega
      have hhn : h < n := by omega
      have hhnI : (h : Int) < n := by omega
      have hjn : j < n := by omega
      have hjnI : (j : Int) < n := by omega
      have HJ := Lib.hid hj
      clear hj
      obtain ⟨p, hp⟩ : ∃ p, (x ++ u ++ (v ++ y))[h]? = some p := ⟨_, List.getElem?_eq_getElem (by rw [HR.out.len]; exact hhn)⟩
      obtain ⟨q, hq⟩ : ∃ q, (x ++ u ++ (v ++ y))[j]? = some q := ⟨_, List.getElem?_eq_getElem (by rw [HR.out.len]; exact hjn)⟩
      have HP := Lib.hid hp
      have HQ := Lib.hid hq
      have e1 : x ++ u ++ (v ++ y) = x ++ (u ++ v) ++ y := by simp
      have hps : Small p.1 := HSm.out p (by
        rw [e1] at hp
        have h2 := HA.out
        have h3 := HM.out
        have h4 := HB.out
        exact mem_seg hp (by omega) (by simp; omega))
      have hqs : Small q.1 := HSm.out q (by
        rw [e1] at hq
        have h2 := HA.out
        have h3 := HM.out
        have h4 := HB.out
        exact mem_seg hq (by omega) (by simp; omega))
      have HPS := Lib.hid hps
      have HQS := Lib.hid hqs
      unfold Small at hps hqs
      have c1 := Lib.hid (HR.out.at_ hp)
      have d1 := Lib.hid (HR.out.at_ hq)
      clear hp hq e1
      by_cases hcmp : q.1 < p.1
      · as_aux_lemma =>
          have hdc : decide (q.1 - p.1 < 0) = true := by simp; omega
          go_wp2_with fail
          refine wp_region_qs (fun k w' => k = 0 → w'.rangeAt g (h * 73) (itC (itP p)) ∧ w'.rangeAt g (j * 73) (itC (itP q)))
            [(0, some 0), (1, some 1), (2, some 1), (3, some 1), (4, some 1), (5, some 1), (6, some 0), (7, some 1), (8, some 1), (9, some 1), (10, some 0), (11, none), (12, some 1), (13, some 1)] (by kernel_rfl) (by kernel_rfl) (by kernel_rfl) (by kernel_rfl) (by kernel_rfl) (fun _ _ _ _ _ h => h) (fun _ => ⟨c1.out, d1.out⟩) ?_
          simp only [List.map_cons, List.map_nil, List.getD_cons_succ, List.getD_cons_zero]
          (repeat (first | ((first | (refine qs_row (by rfl) 56 _ (by rfl) g (h * 73) (by rfl) (itC (itP p)) _ (fun j w2 h1 h2 h => (h (by omega)).1) Tryz.underlying56 rfl (itC_info _) ?_) | (refine qs_row (by rfl) 56 _ (by rfl) g (j * 73) (by rfl) (itC (itP q)) _ (fun j w2 h1 h2 h => (h (by omega)).2) Tryz.underlying56 rfl (itC_info _) ?_)); simp only [Act.put, List.setIfInBounds_toArray, List.set_cons_zero, List.set_cons_succ]) | (refine qs_now (v := ?_) (by rfl) ?_ ?_; rotate_left 1; (· (intro w' hS; go_simp; (try (simp only [↓IntWalk.iteOmega]; go_simp)); (try simp (disch := omega) only [IntWalk.i64_in]); try with_reducible rfl)); simp only [Act.put, List.setIfInBounds_toArray, List.set_cons_zero, List.set_cons_succ]) | (refine qs_run (v := ?_) (by rfl) ?_ ?_; rotate_left 1; (· (intro j w' hS; go_simp; (try (simp only [↓IntWalk.iteOmega]; go_simp)); (try simp (disch := omega) only [IntWalk.i64_in]); try with_reducible rfl)); simp only [Act.put, List.setIfInBounds_toArray, List.set_cons_zero, List.set_cons_succ]) | (refine qs_mid (v := ?_) (by rfl) ?_ ?_; rotate_left 1; (· (intro j w' hj1 hj2 hS; go_simp; (try (simp only [↓IntWalk.iteOmega]; go_simp)); (try simp (disch := omega) only [IntWalk.i64_in]); try with_reducible rfl)); simp only [Act.put, List.setIfInBounds_toArray, List.set_cons_zero, List.set_cons_succ]) | (refine qs_skip (by rfl) ?_; simp only [Act.put, List.setIfInBounds_toArray, List.set_cons_zero, List.set_cons_succ])))
          refine qs_act ?_
          go_wp2_with (go_at_call 78; refine (cmp_any q p _ HQS.out HPS.out).mono ?_; rintro ev w1 ⟨rfl, hb1⟩)
          refine ⟨fun h => h.elim, ?_⟩
          (repeat (first | ((first | (refine qs_row (by rfl) 56 _ (by rfl) g (h * 73) (by rfl) (itC (itP p)) _ (fun j w2 h1 h2 h => (h (by omega)).1) Tryz.underlying56 rfl (itC_info _) ?_) | (refine qs_row (by rfl) 56 _ (by rfl) g (j * 73) (by rfl) (itC (itP q)) _ (fun j w2 h1 h2 h => (h (by omega)).2) Tryz.underlying56 rfl (itC_info _) ?_)); simp only [Act.put, List.setIfInBounds_toArray, List.set_cons_zero, List.set_cons_succ]) | (refine qs_now (v := ?_) (by rfl) ?_ ?_; rotate_left 1; (· (intro w' hS; go_simp; (try (simp only [↓IntWalk.iteOmega]; go_simp)); (try simp (disch := omega) only [IntWalk.i64_in]); try with_reducible rfl)); simp only [Act.put, List.setIfInBounds_toArray, List.set_cons_zero, List.set_cons_succ]) | (refine qs_run (v := ?_) (by rfl) ?_ ?_; rotate_left 1; (· (intro j w' hS; go_simp; (try (simp only [↓IntWalk.iteOmega]; go_simp)); (try simp (disch := omega) only [IntWalk.i64_in]); try with_reducible rfl)); simp only [Act.put, List.setIfInBounds_toArray, List.set_cons_zero, List.set_cons_succ]) | (refine qs_mid (v := ?_) (by rfl) ?_ ?_; rotate_left 1; (· (intro j w' hj1 hj2 hS; go_simp; (try (simp only [↓IntWalk.iteOmega]; go_simp)); (try simp (disch := omega) only [IntWalk.i64_in]); try with_reducible rfl)); simp only [Act.put, List.setIfInBounds_toArray, List.set_cons_zero, List.set_cons_succ]) | (refine qs_skip (by rfl) ?_; simp only [Act.put, List.setIfInBounds_toArray, List.set_cons_zero, List.set_cons_succ])))
          refine qs_nil ?_
          clear c1 d1
          have HR1 := Lib.hid (HR.out.drew.grown hb1)
          have HG1 := Lib.hid (grown_below (grown_drew HG.out) hb1)
          clear hb1
          go_wp2_with fail
          go_roundw
          case rel => exact ⟨st, h, rfl, rfl, bs_no HBs.out HMon.out hh1 hh2 (by simp only [midP, decide_eq_false_iff_not]; rw [key_some HP.out, ← HJ.out, key_some HQ.out]; omega), HR1.out, HG1.out⟩
          case measure => simp [intOf]; omega
      · as_aux_lemma =>
          have hdc : decide (q.1 - p.1 < 0) = false := by simp; omega
          go_wp2_with fail
          refine wp_region_qs (fun k w' => k = 0 → w'.rangeAt g (h * 73) (itC (itP p)) ∧ w'.rangeAt g (j * 73) (itC (itP q)))
            [(0, some 0), (1, some 1), (2, some 1), (3, some 1), (4, some 1), (5, some 1), (6, some 0), (7, some 1), (8, some 1), (9, some 1), (10, some 0), (11, none), (12, some 1), (13, some 1)] (by kernel_rfl) (by kernel_rfl) (by kernel_rfl) (by kernel_rfl) (by kernel_rfl) (fun _ _ _ _ _ h => h) (fun _ => ⟨c1.out, d1.out⟩) ?_
          simp only [List.map_cons, List.map_nil, List.getD_cons_succ, List.getD_cons_zero]
          (repeat (first | ((first | (refine qs_row (by rfl) 56 _ (by rfl) g (h * 73) (by rfl) (itC (itP p)) _ (fun j w2 h1 h2 h => (h (by omega)).1) Tryz.underlying56 rfl (itC_info _) ?_) | (refine qs_row (by rfl) 56 _ (by rfl) g (j * 73) (by rfl) (itC (itP q)) _ (fun j w2 h1 h2 h => (h (by omega)).2) Tryz.underlying56 rfl (itC_info _) ?_)); simp only [Act.put, List.setIfInBounds_toArray, List.set_cons_zero, List.set_cons_succ]) | (refine qs_now (v := ?_) (by rfl) ?_ ?_; rotate_left 1; (· (intro w' hS; go_simp; (try (simp only [↓IntWalk.iteOmega]; go_simp)); (try simp (disch := omega) only [IntWalk.i64_in]); try with_reducible rfl)); simp only [Act.put, List.setIfInBounds_toArray, List.set_cons_zero, List.set_cons_succ]) | (refine qs_run (v := ?_) (by rfl) ?_ ?_; rotate_left 1; (· (intro j w' hS; go_simp; (try (simp only [↓IntWalk.iteOmega]; go_simp)); (try simp (disch := omega) only [IntWalk.i64_in]); try with_reducible rfl)); simp only [Act.put, List.setIfInBounds_toArray, List.set_cons_zero, List.set_cons_succ]) | (refine qs_mid (v := ?_) (by rfl) ?_ ?_; rotate_left 1; (· (intro j w' hj1 hj2 hS; go_simp; (try (simp only [↓IntWalk.iteOmega]; go_simp)); (try simp (disch := omega) only [IntWalk.i64_in]); try with_reducible rfl)); simp only [Act.put, List.setIfInBounds_toArray, List.set_cons_zero, List.set_cons_succ]) | (refine qs_skip (by rfl) ?_; simp only [Act.put, List.setIfInBounds_toArray, List.set_cons_zero, List.set_cons_succ])))
          refine qs_act ?_
          go_wp2_with (go_at_call 78; refine (cmp_any q p _ HQS.out HPS.out).mono ?_; rintro ev w1 ⟨rfl, hb1⟩)
          refine ⟨fun h => h.elim, ?_⟩
          (repeat (first | ((first | (refine qs_row (by rfl) 56 _ (by rfl) g (h * 73) (by rfl) (itC (itP p)) _ (fun j w2 h1 h2 h => (h (by omega)).1) Tryz.underlying56 rfl (itC_info _) ?_) | (refine qs_row (by rfl) 56 _ (by rfl) g (j * 73) (by rfl) (itC (itP q)) _ (fun j w2 h1 h2 h => (h (by omega)).2) Tryz.underlying56 rfl (itC_info _) ?_)); simp only [Act.put, List.setIfInBounds_toArray, List.set_cons_zero, List.set_cons_succ]) | (refine qs_now (v := ?_) (by rfl) ?_ ?_; rotate_left 1; (· (intro w' hS; go_simp; (try (simp only [↓IntWalk.iteOmega]; go_simp)); (try simp (disch := omega) only [IntWalk.i64_in]); try with_reducible rfl)); simp only [Act.put, List.setIfInBounds_toArray, List.set_cons_zero, List.set_cons_succ]) | (refine qs_run (v := ?_) (by rfl) ?_ ?_; rotate_left 1; (· (intro j w' hS; go_simp; (try (simp only [↓IntWalk.iteOmega]; go_simp)); (try simp (disch := omega) only [IntWalk.i64_in]); try with_reducible rfl)); simp only [Act.put, List.setIfInBounds_toArray, List.set_cons_zero, List.set_cons_succ]) | (refine qs_mid (v := ?_) (by rfl) ?_ ?_; rotate_left 1; (· (intro j w' hj1 hj2 hS; go_simp; (try (simp only [↓IntWalk.iteOmega]; go_simp)); (try simp (disch := omega) only [IntWalk.i64_in]); try with_reducible rfl)); simp only [Act.put, List.setIfInBounds_toArray, List.set_cons_zero, List.set_cons_succ]) | (refine qs_skip (by rfl) ?_; simp only [Act.put, List.setIfInBounds_toArray, List.set_cons_zero, List.set_cons_succ])))
          refine qs_nil ?_
          clear c1 d1
          have HR1 := Lib.hid (HR.out.drew.grown hb1)
          have HG1 := Lib.hid (grown_below (grown_drew HG.out) hb1)
          clear hb1
          go_wp2_with fail
          go_roundw
          case rel => exact ⟨h + 1, r, by go_num, rfl, bs_yes HBs.out HMon.out hh1 hh2 (by simp only [midP, decide_eq_true_eq]; rw [key_some HP.out, ← HJ.out, key_some HQ.out]; omega), HR1.out, HG1.out⟩
          case measure => simp [intOf]; omega
    · have hltI : ¬ (st : Int) < r := by omega
      obtain rfl : st = r := by omega
      obtain ⟨en, hen⟩ : ∃ en, en = mid + m - st := ⟨_, rfl⟩
      have hso := HSO.out
      unfold StartOk at hso
      have HC : Hid (Cuts x u v y a m b mid st en) := by
        have h1 := HA.out
        have h2 := HM.out
        have h3 := HB.out
        obtain ⟨k1, k2⟩ := mid_cut (x := x) (u := u) (v := v) (y := y) HU.out HV.out (m := m) (mid := mid) (b := b) (s0 := s0) (r0 := r0) (st := st) (en := en) (by omega) h3 hen (by omega) (by omega) HBs.out (by omega) (by omega) (by omega) (fun h => by omega) (fun h => by omega)
        rw [← h1] at k1 k2
        exact ⟨by omega, by omega, by omega, by omega, by omega, by omega, k1, k2⟩
      have henI : (mid : Int) + m - st = en := by omega
      obtain ⟨k1, k2, k3, k4, k5, k6, _, _⟩ := HC.out
      clear hen HMon HP3 HBs hso HSO
      go_upto_region 39 with fail
      go_cut [185] (fun c wx => c = .bool (decide (st < m ∧ m < en)) ∧ wr = wx)
      case first =>
        as_aux_lemma =>
          by_cases hd1 : st < m
          · have hd1I : (st : Int) < m := by omega
            by_cases hd2 : m < en
            · have hd2I : (m : Int) < en := by omega
              go_wp2_with fail
              go_meet
              exact ⟨by simp [hd1, hd2], rfl⟩
            · have hd2I : ¬ (m : Int) < en := by omega
              go_wp2_with fail
              go_meet
              exact ⟨by simp [hd1, hd2], rfl⟩
          · have hd1I : ¬ (st : Int) < m := by omega
            go_wp2_with fail
            go_meet
            exact ⟨by simp [hd1], rfl⟩
      case rest =>
      obtain ⟨rfl, rfl⟩ := hcut
      go_upto_if 185 with fail
      go_cut [20] (fun s20 wx => s20 = .int .i64 st ∧ PRow wx g n cap (x ++ u.take (st - a) ++ v.take (en - m) ++ u.drop (st - a) ++ (v.drop (en - m) ++ y)) ∧ w.grownBy wx (some g))
      case first =>
        as_aux_lemma =>
          by_cases hc1 : st < m ∧ m < en
          · have hcD : decide (st < m ∧ m < en) = true := by simpa using hc1
            obtain ⟨hc1, hc2⟩ := hc1
            go_wp2_with fail
            refine (rotate_any (x ++ u.take (st - a)) (u.drop (st - a)) (v.take (en - m)) (v.drop (en - m) ++ y) wr g n cap st m en (by
                have h1 := HR.out
                have e1 : u = u.take (st - a) ++ u.drop (st - a) := (List.take_append_drop _ _).symm
                have e2 : v = v.take (en - m) ++ v.drop (en - m) := (List.take_append_drop _ _).symm
                have e3 : x ++ u ++ (v ++ y) = x ++ u.take (st - a) ++ u.drop (st - a) ++ v.take (en - m) ++ (v.drop (en - m) ++ y) := by
                  conv => lhs; rw [e1, e2]
                  simp only [List.append_assoc]
                rw [e3] at h1
                exact h1) (by have h1 := HA.out; have h2 := HM.out; rw [List.length_append, List.length_take]; omega) (by have h2 := HM.out; rw [List.length_drop]; omega) (by have h2 := HB.out; rw [List.length_take]; omega)
                (by intro h0; have := congrArg List.length h0; have h2 := HM.out; rw [List.length_drop, List.length_nil] at this; omega) (by intro h0; have := congrArg List.length h0; have h2 := HB.out; rw [List.length_take, List.length_nil] at this; omega) hn).mono ?_
            rintro ev w1 ⟨rfl, hr1, hg1⟩
            have HR1 := Lib.hid hr1
            have HG1 := Lib.hid (HG.out.trans hg1)
            clear hr1 hg1 HR HG
            go_wp2_with fail
            go_meet
            exact ⟨rfl, HR1.out, HG1.out⟩
          · have HR1 : Hid (PRow wr g n cap (x ++ u.take (st - a) ++ v.take (en - m) ++ u.drop (st - a) ++ (v.drop (en - m) ++ y))) := by
              have h1 := HR.out
              have h2 := HM.out
              have h3 := HB.out
              have e1 : u = u.take (st - a) ++ u.drop (st - a) := (List.take_append_drop _ _).symm
              have e2 : v = v.take (en - m) ++ v.drop (en - m) := (List.take_append_drop _ _).symm
              have e3 : x ++ u ++ (v ++ y) = x ++ u.take (st - a) ++ v.take (en - m) ++ u.drop (st - a) ++ (v.drop (en - m) ++ y) := by
                conv => lhs; rw [e1, e2]
                by_cases hz : st = m
                · rw [List.drop_of_length_le (by omega : u.length ≤ st - a)]; simp only [List.append_assoc, List.append_nil]
                · rw [show en - m = 0 from by omega]; simp only [List.append_assoc, List.take_zero, List.append_nil, List.nil_append]
              rw [e3] at h1
              exact h1
            have hcD : decide (st < m ∧ m < en) = false := by simpa using hc1
            go_wp2_with fail
            go_meet
            exact ⟨rfl, HR1.out, HG.out⟩
      case rest =>
      obtain ⟨rfl, hr1, hg1⟩ := hcut
      have HR1 := Lib.hid hr1
      have HG1 := Lib.hid hg1
      clear hr1 hg1 HR HG
      go_upto_region 41 with fail
      go_cut [199] (fun c wx => c = .bool (decide (a < st ∧ st < mid)) ∧ wc = wx)
      case first =>
        as_aux_lemma =>
          by_cases hd1 : a < st
          · have hd1I : (a : Int) < st := by omega
            by_cases hd2 : st < mid
            · have hd2I : (st : Int) < mid := by omega
              go_wp2_with fail
              go_meet
              exact ⟨by simp [hd1, hd2], rfl⟩
            · have hd2I : ¬ (st : Int) < mid := by omega
              go_wp2_with fail
              go_meet
              exact ⟨by simp [hd1, hd2], rfl⟩
          · have hd1I : ¬ (a : Int) < st := by omega
            go_wp2_with fail
            go_meet
            exact ⟨by simp [hd1], rfl⟩
      case rest =>
      obtain ⟨rfl, rfl⟩ := hcut
      go_upto_if 199 with fail
      go_cut [20] (fun s20 wx => s20 = .int .i64 st ∧ LeftDone x u v y a m st en w g n cap wx)
      case first =>
        as_aux_lemma =>
          by_cases hc3 : a < st ∧ st < mid
          · have hcD : decide (a < st ∧ st < mid) = true := by simpa using hc3
            obtain ⟨hc3, hc4⟩ := hc3
            go_wp2_with fail
            refine (HIH.out x (u.take (st - a)) (v.take (en - m)) (u.drop (st - a) ++ v.drop (en - m) ++ y) wc g n cap a st mid (by have h1 := HM.out; have h2 := HB.out; simp; omega) (by have h1 := HM.out; simp; omega) (by have h1 := HM.out; have h2 := HB.out; simp; omega) (srt_take HU.out _).1 (srt_take HV.out _).1 (by simpa using HR1.out)
              HA.out (by have h1 := HM.out; simp; omega) (by have h1 := HM.out; have h2 := HB.out; simp; omega) hn
              (fun p hp => HSm.out p (by rcases List.mem_append.1 hp with hp | hp; (· exact List.mem_append_left _ (List.mem_of_mem_take hp)); (· exact List.mem_append_right _ (List.mem_of_mem_take hp))))).mono ?_
            rintro ev w2 ⟨rfl, s, hs1, hs2, hr2, hg2⟩
            have HD : Hid (LeftDone x u v y a m st en w g n cap w2) := Lib.hid ⟨s, hs1, hs2, hr2, HG1.out.trans hg2⟩
            clear hs1 hs2 hr2 hg2
            go_wp2_with fail
            go_meet
            exact ⟨rfl, HD.out⟩
          · have HD : Hid (LeftDone x u v y a m st en w g n cap wc) := by
              have h1 := HM.out
              have h2 := HB.out
              refine ⟨_, srt_one (srt_take HU.out (st - a)).1 (srt_take HV.out (en - m)).1 (by simp; omega), StEq.refl _, ?_, HG1.out⟩
              simpa using HR1.out
            have hcD : decide (a < st ∧ st < mid) = false := by simpa using hc3
            go_wp2_with fail
            go_meet
            exact ⟨rfl, HD.out⟩
      case rest =>
      obtain ⟨rfl, s, hs1, hs2, hr2, hg2⟩ := hcut
      have HS1 := Lib.hid hs1
      have HS2 := Lib.hid hs2
      have HR2 := Lib.hid hr2
      have HG2 := Lib.hid hg2
      clear hs1 hs2 hr2 hg2 HR1 HG1
      by_cases hc5 : mid < en ∧ en < b
      · obtain ⟨hc5, hc6⟩ := hc5
        have hc5I : (mid : Int) < en := by omega
        have hc6I : (en : Int) < b := by omega
        go_wp2_with fail
        refine (HIH.out (x ++ s) (u.drop (st - a)) (v.drop (en - m)) y wc g n cap mid en b (by have h1 := HM.out; have h2 := HB.out; simp; omega) (by have h1 := HM.out; simp; omega) (by have h2 := HB.out; simp; omega) (srt_take HU.out _).2.1 (srt_take HV.out _).2.1 (by simpa using HR2.out)
          (by have h1 := HS2.out.length; have h2 := HA.out; have h3 := HM.out; have h4 := HB.out; simp at h1; simp; omega) (by have h1 := HM.out; simp; omega) (by have h2 := HB.out; simp; omega) hn
          (fun p hp => HSm.out p (by rcases List.mem_append.1 hp with hp | hp; (· exact List.mem_append_left _ (List.mem_of_mem_drop hp)); (· exact List.mem_append_right _ (List.mem_of_mem_drop hp))))).mono ?_
        rintro ev w3 ⟨rfl, t, ht1, ht2, hr3, hg3⟩
        have HP : Hid (MergedPost x u v y w g n cap (.returned (.tuple #[])) w3) := by
          obtain ⟨k1, k2⟩ := sym_step (srt_take HU.out (st - a)).2.2 (srt_take HV.out (en - m)).2.2 HC.out.lt HC.out.le HS1.out HS2.out ht1 ht2
          rw [List.take_append_drop, List.take_append_drop] at k2
          exact ⟨rfl, s ++ t, k1, k2, by simpa using hr3, HG2.out.trans hg3⟩
        clear ht1 ht2 hr3 hg3
        go_wp2_with fail
        go_end0
        exact HP.out
      · have HP : Hid (MergedPost x u v y w g n cap (.returned (.tuple #[])) wc) := by
          have h1 := HM.out
          have h2 := HB.out
          obtain ⟨k1, k2⟩ := sym_step (srt_take HU.out (st - a)).2.2 (srt_take HV.out (en - m)).2.2 HC.out.lt HC.out.le HS1.out HS2.out (srt_one (srt_take HU.out (st - a)).2.1 (srt_take HV.out (en - m)).2.1 (by simp; omega)) (StEq.refl _)
          rw [List.take_append_drop, List.take_append_drop] at k2
          exact ⟨rfl, _, k1, k2, by simpa using HR2.out, HG2.out⟩
        by_cases hc6 : mid < en
        · have hc5I : (mid : Int) < en := by omega
          have hc6I : ¬ (en : Int) < b := by omega
          have hc6D : decide ((en : Int) < b) = false := by simpa using hc6I
          have hc6N : decide (en < b) = false := by simp; omega
          go_wp2_with fail
          go_end0
          exact HP.out
        · have hc5I : ¬ (mid : Int) < en := by omega
          go_wp2_with fail
          go_end0
          exact HP.out

theorem sym_all : ∀ N, SymSaid N
  | 0 => fun x u v y w g n cap a m b h1 h2 h3 => by omega
  | N + 1 => fun x u v y w g n cap a m b h1 h2 h3 h4 h5 h6 h7 h8 h9 h10 h11 => by
    by_cases hu1 : u.length = 1
    · obtain ⟨e, rfl⟩ := List.length_eq_one_iff.1 hu1
      exact sym_left x v y e w g n cap a m b h6 h7 h8 h9 h5 h10 h11
    · by_cases hv1 : v.length = 1
      · obtain ⟨e, rfl⟩ := List.length_eq_one_iff.1 hv1
        exact sym_right x u y e w g n cap a m b h6 h7 h8 h9 h4 hu1 h10 h11
      · exact sym_mid N (sym_all N) x u v y w g n cap a m b h1 (by omega) (by omega) h4 h5 h6 h7 h8 h9 h10 h11
end Go.Proofs.YtgjjdfhoakailaaGreat
namespace Go.Proofs.YtgjjdfhoakailaaGreat
open Go.RowKit Go.Maps Go.Sort Go.Shelf
set_option linter.unusedVariables false

/-- The stretch j of bs elements is sorted. -/
def Blk1 (bs : Nat) (t : List PV) (j : Nat) : Prop := Srt ((t.drop (j * bs)).take bs)
theorem take_drop_split (t : List PV) (a b : Nat) (hab : a ≤ b) (hb : b ≤ t.length) : t = t.take a ++ (t.drop a).take (b - a) ++ t.drop b := by
  have h1 : (t.drop a).take (b - a) ++ t.drop b = t.drop a := by
    have : t.drop b = (t.drop a).drop (b - a) := by rw [List.drop_drop]; congr 1; omega
    rw [this, List.take_append_drop]
  rw [List.append_assoc, h1, List.take_append_drop]
/-- A stretch is put in place of another one of its length: what lies elsewhere stays. -/
theorem seg_else {x s s' y : List PV} (h : s.length = s'.length) {i n : Nat} (hi : i + n ≤ x.length ∨ x.length + s.length ≤ i) : ((x ++ s' ++ y).drop i).take n = ((x ++ s ++ y).drop i).take n := by
  apply List.ext_getElem?
  intro j
  rw [List.getElem?_take, List.getElem?_take, List.getElem?_drop, List.getElem?_drop]
  by_cases hj : j < n
  · rw [if_pos hj, if_pos hj]
    rcases hi with hi | hi
    · rw [List.append_assoc, List.append_assoc, List.getElem?_append_left (by omega), List.getElem?_append_left (by omega)]
    · rw [List.getElem?_append_right (by rw [List.length_append]; omega), List.getElem?_append_right (by rw [List.length_append]; omega), List.length_append, List.length_append, h]
  · rw [if_neg hj, if_neg hj]
theorem seg_here {x s y : List PV} {i n : Nat} (hi : i = x.length) (hn : n = s.length) : ((x ++ s ++ y).drop i).take n = s := by
  subst hi hn
  rw [List.append_assoc, List.drop_left, List.take_left]
theorem srt_nil : Srt ([] : List PV) := List.Pairwise.nil
theorem blk_round {x s s' y : List PV} {bs k : Nat} (hb : ∀ j, j < k → Blk1 bs (x ++ s ++ y) j) (hx : x.length = k * bs) (hs : s.length = bs) (hl : s.length = s'.length) (h : Srt s') : ∀ j, j < k + 1 → Blk1 bs (x ++ s' ++ y) j := by
  intro j hj
  unfold Blk1
  rcases Nat.lt_or_ge j k with hlt | hge
  · have h1 : (j + 1) * bs ≤ k * bs := Nat.mul_le_mul_right _ hlt
    rw [Nat.succ_mul] at h1
    rw [seg_else hl (.inl (by omega))]
    exact hb j hlt
  · obtain rfl : j = k := by omega
    rw [seg_here hx.symm (by omega)]
    exact h
theorem blk_last {x s s' : List PV} {bs k : Nat} (hb : ∀ j, j < k → Blk1 bs (x ++ s) j) (hx : x.length = k * bs) (hs : s.length ≤ bs) (hl : s.length = s'.length) (h : Srt s') : ∀ j, Blk1 bs (x ++ s') j := by
  intro j
  unfold Blk1
  rcases Nat.lt_trichotomy j k with hlt | rfl | hgt
  · have h1 : (j + 1) * bs ≤ k * bs := Nat.mul_le_mul_right _ hlt
    rw [Nat.succ_mul] at h1
    have h2 := seg_else (x := x) (s := s) (s' := s') (y := []) hl (i := j * bs) (n := bs) (.inl (by omega))
    rw [List.append_nil, List.append_nil] at h2
    rw [h2]
    exact hb j hlt
  · rw [← hx, List.drop_left, List.take_of_length_le (by omega)]
    exact h
  · have h1 : (k + 1) * bs ≤ j * bs := Nat.mul_le_mul_right _ hgt
    rw [Nat.succ_mul] at h1
    rw [List.drop_of_length_le (by rw [List.length_append]; omega), List.take_nil]
    exact srt_nil
theorem blk_keep {x s s' y : List PV} {bs k : Nat} (hb : ∀ j, 2 * k ≤ j → Blk1 bs (x ++ s ++ y) j) (hx : x.length = k * (2 * bs)) (hs : s.length = 2 * bs) (hl : s.length = s'.length) : ∀ j, 2 * (k + 1) ≤ j → Blk1 bs (x ++ s' ++ y) j := by
  intro j hj
  unfold Blk1
  have h1 : (2 * (k + 1)) * bs ≤ j * bs := Nat.mul_le_mul_right _ hj
  have h2 : 2 * (k + 1) * bs = k * (2 * bs) + 2 * bs := by rw [← Nat.succ_mul, Nat.mul_comm 2 (k + 1), Nat.mul_assoc]
  rw [seg_else hl (.inr (by omega))]
  exact hb j (by omega)
theorem blk_all {bs : Nat} {t : List PV} (h : ∀ j, Blk1 bs t j) (hn : t.length ≤ bs) : Srt t := by
  have := h 0
  unfold Blk1 at this
  rwa [Nat.zero_mul, List.drop_zero, List.take_of_length_le hn] at this

def T1 (s : List PV) (w : World) (g n cap : Nat) (av bv : Value) (wr : World) : Prop :=
  ∃ (k a : Nat) (t : List PV), a = k * 20 ∧ av = .int .i64 a ∧ bv = .int .i64 (a + 20 : Nat) ∧ a ≤ n ∧ StEq s t ∧ (∀ j, j < k → Blk1 20 t j) ∧ PRow wr g n cap t ∧ w.grownBy wr (some g)
def T2 (s : List PV) (w : World) (g n cap : Nat) (sv : Value) (wr : World) : Prop :=
  ∃ (bs : Nat) (t : List PV), sv = .int .i64 bs ∧ 20 ≤ bs ∧ bs ≤ 20 + 2 * n ∧ StEq s t ∧ (∀ j, Blk1 bs t j) ∧ PRow wr g n cap t ∧ w.grownBy wr (some g)
def T3 (s : List PV) (bs : Nat) (w : World) (g n cap : Nat) (av bv : Value) (wr : World) : Prop :=
  ∃ (k a : Nat) (t : List PV), a = k * (2 * bs) ∧ av = .int .i64 a ∧ bv = .int .i64 (a + 2 * bs : Nat) ∧ a ≤ n ∧ StEq s t ∧ (∀ j, j < k → Blk1 (2 * bs) t j) ∧ (∀ j, 2 * k ≤ j → Blk1 bs t j) ∧ PRow wr g n cap t ∧ w.grownBy wr (some g)
theorem small_perm {s t : List PV} (h : StEq s t) (hs : ∀ p ∈ s, Small p.1) : ∀ p ∈ t, Small p.1 := fun p hp => hs p ((h.mem p).2 hp)
theorem steq_mid {x s s' y : List PV} (h : StEq s s') : StEq (x ++ s ++ y) (x ++ s' ++ y) := ((StEq.refl x).append h).append (StEq.refl y)

set_option maxHeartbeats 3200000 in
theorem stable_any (s : List PV) (w : World) (g n cap : Nat) (hn : n ≤ 1000000) (hr : PRow w g n cap s) (hs : ∀ p ∈ s, Small p.1) :
    Calls Tryz.prog 110 #[.slice (some ⟨g, 0, none⟩) n cap, .int .i64 n, .func (.func 78) #[] #[]] w (SortPost s w g n cap) := by
  have HR := Lib.hid hr
  have HS := Lib.hid hs
  clear hr hs
  go_enter Tryz.func110, Tryz.ntmps110
  go_wp2_with fail
  go_loopw [7, 8] (T1 s w g n cap) (fun a _ _ => n + 1 - (intOf a).toNat)
  case atStart => exact ⟨0, 0, s, rfl, rfl, rfl, by omega, StEq.refl _, fun j hj => by omega, HR.out, World.grownBy.refl _ _⟩
  case round =>
    obtain ⟨k, a, t, hak, rfl, rfl, han, hst, hbl, hr1, hg1⟩ := hrel
    have HK := Lib.hid hak
    have HST := Lib.hid hst
    have HBL := Lib.hid hbl
    have HR1 := Lib.hid hr1
    have HG1 := Lib.hid hg1
    clear hak hst hbl hr1 hg1
    by_cases hlt : a + 20 ≤ n
    · have hltI : ((a + 20 : Nat) : Int) ≤ n := by omega
      obtain ⟨x, hx⟩ : ∃ x, x = t.take a := ⟨_, rfl⟩
      obtain ⟨m, hm⟩ : ∃ m, m = (t.drop a).take (a + 20 - a) := ⟨_, rfl⟩
      obtain ⟨y, hy⟩ : ∃ y, y = t.drop (a + 20) := ⟨_, rfl⟩
      have ht : t = x ++ m ++ y := by rw [hx, hm, hy]; exact take_drop_split t a (a + 20) (by omega) (by rw [HR1.out.len]; exact hlt)
      have HX : Hid (x.length = a) := by show _ = _; rw [hx, List.length_take, HR1.out.len]; omega
      have HM : Hid (m.length = 20) := by show _ = _; rw [hm, List.length_take, List.length_drop, HR1.out.len]; omega
      rw [ht] at HST HBL HR1
      clear hx hm hy ht
      go_wp2_with fail
      refine (ins_any x m y wr g n cap a (a + 20) HR1.out HX.out.symm (by rw [HM.out]) (by omega) (fun p hp => small_perm HST.out HS.out p (by simp [hp]))).mono ?_
      rintro ev w1 ⟨rfl, m', h1, h2, h3, h4⟩
      have HP : Hid (T1 s w g n cap (.int .i64 (a + 20 : Nat)) (.int .i64 (a + 20 + 20 : Nat)) w1) := by
        refine ⟨k + 1, a + 20, x ++ m' ++ y, by have := HK.out; omega, rfl, rfl, hlt, HST.out.trans (steq_mid h2), ?_, h3, HG1.out.trans h4⟩
        exact blk_round HBL.out (by rw [HX.out, HK.out]) HM.out h2.length h1
      clear h1 h2 h3 h4
      go_wp2_with fail
      go_roundw
      case rel => simpa using HP.out
      case measure => simp [intOf]; omega
    · have hltI : ¬ ((a + 20 : Nat) : Int) ≤ n := by omega
      obtain ⟨x, hx⟩ : ∃ x, x = t.take a := ⟨_, rfl⟩
      obtain ⟨m, hm⟩ : ∃ m, m = t.drop a := ⟨_, rfl⟩
      have ht : t = x ++ m := by rw [hx, hm, List.take_append_drop]
      have HX : Hid (x.length = a) := by show _ = _; rw [hx, List.length_take, HR1.out.len]; omega
      have HM : Hid (m.length = n - a) := by show _ = _; rw [hm, List.length_drop, HR1.out.len]
      rw [ht] at HST HBL HR1
      clear hx hm ht
      go_wp2_with fail
      refine (ins_any x m [] wr g n cap a n (by simpa using HR1.out) HX.out.symm (by rw [HM.out]; omega) (by omega) (fun p hp => small_perm HST.out HS.out p (by simp [hp]))).mono ?_
      rintro ev w1 ⟨rfl, m', h1, h2, h3, h4⟩
      have HP : Hid (T2 s w g n cap (.int .i64 20) w1) := by
        refine ⟨20, x ++ m', rfl, by omega, by omega, HST.out.trans ((StEq.refl x).append h2), ?_, by simpa using h3, HG1.out.trans h4⟩
        exact blk_last HBL.out (by rw [HX.out, HK.out]) (by rw [HM.out]; omega) h2.length h1
      clear h1 h2 h3 h4 HR1 HG1 HST HBL HX HM HK hlt hltI
      go_wp2_with fail
      go_loopw [6] (T2 s w g n cap) (fun b _ => n + 1 - (intOf b).toNat)
      case atStart => exact HP.out
      case round =>
        clear HP
        obtain ⟨bs, t, rfl, hb1, hb2, hst, hbl, hr1, hg1⟩ := hrel
        have HST := Lib.hid hst
        have HBL := Lib.hid hbl
        have HR1 := Lib.hid hr1
        have HG1 := Lib.hid hg1
        clear hst hbl hr1 hg1
        by_cases hlt : bs < n
        · have hltI : (bs : Int) < n := by omega
          go_wp2_with fail
          go_loopw [7, 8] (T3 s bs w g n cap) (fun a _ _ => n + 1 - (intOf a).toNat)
          case atStart => exact ⟨0, 0, t, by simp, rfl, by simp, by omega, HST.out, fun j hj => by omega, fun j _ => HBL.out j, HR1.out, HG1.out⟩
          case round =>
            clear HST HBL HR1 HG1
            obtain ⟨k, a, t, hak, rfl, rfl, han, hst, hbl, hbl2, hr1, hg1⟩ := hrel
            have HK := Lib.hid hak
            have HST := Lib.hid hst
            have HBL := Lib.hid hbl
            have HBL2 := Lib.hid hbl2
            have HR1 := Lib.hid hr1
            have HG1 := Lib.hid hg1
            have HU0 : Hid (Srt ((t.drop a).take bs)) := by
              have := hbl2 (2 * k) (Nat.le_refl _)
              unfold Blk1 at this
              rw [show 2 * k * bs = a from by rw [hak, Nat.mul_comm 2 k, Nat.mul_assoc]] at this
              exact this
            have HV0 : Hid (Srt ((t.drop (a + bs)).take bs)) := by
              have := hbl2 (2 * k + 1) (by omega)
              unfold Blk1 at this
              rw [show (2 * k + 1) * bs = a + bs from by rw [Nat.succ_mul, hak, Nat.mul_comm 2 k, Nat.mul_assoc]] at this
              exact this
            clear hak hst hbl hbl2 hr1 hg1
            by_cases hlt2 : a + 2 * bs ≤ n
            · have hlt2I : ((a + 2 * bs : Nat) : Int) ≤ n := by omega
              obtain ⟨x, hx⟩ : ∃ x, x = t.take a := ⟨_, rfl⟩
              obtain ⟨u, hu⟩ : ∃ u, u = (t.drop a).take bs := ⟨_, rfl⟩
              obtain ⟨v, hv⟩ : ∃ v, v = (t.drop (a + bs)).take bs := ⟨_, rfl⟩
              obtain ⟨y, hy⟩ : ∃ y, y = t.drop (a + 2 * bs) := ⟨_, rfl⟩
              have ht : t = x ++ (u ++ v) ++ y := by
                have e1 := take_drop_split t a (a + 2 * bs) (by omega) (by rw [HR1.out.len]; exact hlt2)
                have e2 : (t.drop a).take (a + 2 * bs - a) = u ++ v := by
                  rw [hu, hv, show a + 2 * bs - a = bs + bs from by omega, List.take_add, List.drop_drop]
                rw [e2, ← hx, ← hy] at e1
                exact e1
              have HX : Hid (x.length = a) := by show _ = _; rw [hx, List.length_take, HR1.out.len]; omega
              have HU : Hid (u.length = bs) := by show _ = _; rw [hu, List.length_take, List.length_drop, HR1.out.len]; omega
              have HV : Hid (v.length = bs) := by show _ = _; rw [hv, List.length_take, List.length_drop, HR1.out.len]; omega
              rw [← hu] at HU0
              rw [← hv] at HV0
              rw [ht] at HST HBL HBL2 HR1
              clear hx hu hv hy ht
              go_wp2_with fail
              refine (show Calls _ _ #[_, .int .i64 (a : Nat), .int .i64 (a + bs : Nat), .int .i64 (a + 2 * bs : Nat), _] _ _ from sym_all _ x u v y wr g n cap a (a + bs) (a + 2 * bs) (Nat.le_refl _) (by rw [HU.out]; omega) (by rw [HV.out]; omega) HU0.out HV0.out (by simpa using HR1.out) HX.out.symm (by rw [HU.out]) (by rw [HV.out]; omega) (by omega)
                (fun p hp => small_perm HST.out HS.out p (by simp only [List.mem_append] at hp ⊢; exact .inl (.inr hp)))).mono ?_
              rintro ev w1 ⟨rfl, m', h1, h2, h3, h4⟩
              have HP : Hid (T3 s bs w g n cap (.int .i64 (a + 2 * bs : Nat)) (.int .i64 (a + 2 * bs + 2 * bs : Nat)) w1) := by
                have hl : (u ++ v).length = 2 * bs := by rw [List.length_append, HU.out, HV.out]; omega
                refine ⟨k + 1, a + 2 * bs, x ++ m' ++ y, by rw [HK.out]; exact (Nat.succ_mul _ _).symm, rfl, rfl, hlt2, HST.out.trans (steq_mid h2), ?_, ?_, h3, HG1.out.trans h4⟩
                · exact blk_round HBL.out (by rw [HX.out, HK.out]) hl h2.length h1
                · exact blk_keep HBL2.out (by rw [HX.out, HK.out]) hl h2.length
              clear h1 h2 h3 h4
              go_wp2_with fail
              go_roundw
              case rel => simpa using HP.out
              case measure => simp [intOf]; omega
            · have hlt2I : ¬ ((a + 2 * bs : Nat) : Int) ≤ n := by omega
              by_cases hlt3 : a + bs < n
              · have hlt3I : (a : Int) + bs < n := by omega
                obtain ⟨x, hx⟩ : ∃ x, x = t.take a := ⟨_, rfl⟩
                obtain ⟨u, hu⟩ : ∃ u, u = (t.drop a).take bs := ⟨_, rfl⟩
                obtain ⟨v, hv⟩ : ∃ v, v = t.drop (a + bs) := ⟨_, rfl⟩
                have hvv : (t.drop (a + bs)).take bs = v := by rw [hv, List.take_of_length_le (by rw [List.length_drop, HR1.out.len]; omega)]
                have ht : t = x ++ (u ++ v) := by
                  have e1 := take_drop_split t a (a + bs) (by omega) (by rw [HR1.out.len]; omega)
                  rw [show a + bs - a = bs from by omega, ← hx, ← hu, ← hv, List.append_assoc] at e1
                  exact e1
                have HX : Hid (x.length = a) := by show _ = _; rw [hx, List.length_take, HR1.out.len]; omega
                have HU : Hid (u.length = bs) := by show _ = _; rw [hu, List.length_take, List.length_drop, HR1.out.len]; omega
                have HV : Hid (v.length = n - (a + bs)) := by show _ = _; rw [hv, List.length_drop, HR1.out.len]
                rw [← hu] at HU0
                rw [hvv] at HV0
                rw [ht] at HST HBL HBL2 HR1
                clear hx hu hv hvv ht
                go_wp2_with fail
                refine (show Calls _ _ #[_, .int .i64 (a : Nat), .int .i64 (a + bs : Nat), .int .i64 n, _] _ _ from sym_all _ x u v [] wr g n cap a (a + bs) n (Nat.le_refl _) (by rw [HU.out]; omega) (by rw [HV.out]; omega) HU0.out HV0.out (by simpa using HR1.out) HX.out.symm (by rw [HU.out]) (by rw [HV.out]; omega) (by omega)
                  (fun p hp => small_perm HST.out HS.out p (by simp only [List.mem_append] at hp ⊢; exact .inr hp))).mono ?_
                rintro ev w1 ⟨rfl, m', h1, h2, h3, h4⟩
                have HP : Hid (T2 s w g n cap (.int .i64 (2 * bs : Nat)) w1) := by
                  have hl : (u ++ v).length ≤ 2 * bs := by rw [List.length_append, HU.out, HV.out]; omega
                  refine ⟨2 * bs, x ++ m', rfl, by omega, by omega, HST.out.trans ((StEq.refl x).append h2), ?_, by simpa using h3, HG1.out.trans h4⟩
                  exact blk_last HBL.out (by rw [HX.out, HK.out]) hl h2.length h1
                clear h1 h2 h3 h4
                go_wp2_with fail
                go_roundw
                case rel => simpa [Int.mul_comm] using HP.out
                case measure => simp [intOf]; omega
              · have hlt3I : ¬ (a : Int) + bs < n := by omega
                have HP : Hid (T2 s w g n cap (.int .i64 (2 * bs : Nat)) wr) := by
                  have hx : (t.take a).length = a := by rw [List.length_take, HR1.out.len]; omega
                  have hl : (t.drop a).length = n - a := by rw [List.length_drop, HR1.out.len]
                  have hso : Srt (t.drop a) := by
                    have := HU0.out
                    rwa [List.take_of_length_le (by omega)] at this
                  refine ⟨2 * bs, t, rfl, by omega, by omega, HST.out, ?_, HR1.out, HG1.out⟩
                  have := blk_last (x := t.take a) (s := t.drop a) (s' := t.drop a) (by rw [List.take_append_drop]; exact HBL.out) (by rw [hx, HK.out]) (by omega) rfl hso
                  rwa [List.take_append_drop] at this
                go_wp2_with fail
                go_roundw
                case rel => simpa [Int.mul_comm] using HP.out
                case measure => simp [intOf]; omega
        · have hltI : ¬ (bs : Int) < n := by omega
          go_wp2_with fail
          go_end0
          have hsr := blk_all HBL.out (by rw [HR1.out.len]; omega)
          exact ⟨rfl, by rw [← stSort_of hsr HST.out]; exact HR1.out, HG1.out⟩

theorem stableSaid_all : StableSaid 1000000 := by
  intro s w g n cap hn hr hs
  have HR := Lib.hid hr
  have HS := Lib.hid hs
  clear hr hs
  go_enter Tryz.func77, Tryz.ntmps77
  go_wp2_with (go_at_call 110; refine (stable_any s w g n cap hn HR.out HS.out).mono ?_; rintro ev w1 ⟨rfl, h1⟩; have HP := Lib.hid h1; clear h1)
  go_end0
  exact ⟨rfl, HP.out⟩
end Go.Proofs.YtgjjdfhoakailaaGreat
