/-
  The merge in place, in plain words: a search by halves, the turning of two rows, and why the two halves are a merge.
-/
import Derived.Test.YtlhaehefhhcgaaaDoorSortPlain
namespace Go.Proofs.YtlhaehefhhcgaaaDoor
set_option linter.unusedVariables false

section
variable {β : Type}
/-- Two rows, each cut in two: what lies between the cuts changes its places, and both halves are merged. -/
theorem sym_step {u1 u2 v1 v2 s t : List (Int × β)} (hu : ∀ p ∈ u1, ∀ q ∈ u2, p.1 ≤ q.1) (hv : ∀ p ∈ v1, ∀ q ∈ v2, p.1 ≤ q.1) (hr : ∀ p ∈ u2, ∀ q ∈ v1, q.1 < p.1) (hl : ∀ p ∈ u1, ∀ q ∈ v2, p.1 ≤ q.1)
    (hs : Srt s) (hs' : StEq (u1 ++ v1) s) (ht : Srt t) (ht' : StEq (u2 ++ v2) t) : Srt (s ++ t) ∧ StEq ((u1 ++ u2) ++ (v1 ++ v2)) (s ++ t) := by
  constructor
  · refine List.pairwise_append.2 ⟨hs, ht, fun p hp q hq => ?_⟩
    have hp' := (hs'.mem p).2 hp
    have hq' := (ht'.mem q).2 hq
    rcases List.mem_append.1 hp' with h1 | h1 <;> rcases List.mem_append.1 hq' with h2 | h2
    · exact hu p h1 q h2
    · exact hl p h1 q h2
    · have := hr q h2 p h1; omega
    · exact hv p h1 q h2
  · have h1 := ((StEq.refl u1).append (StEq.rot u2 v1 hr)).append (StEq.refl v2)
    have h2 := hs'.append ht'
    exact (show StEq ((u1 ++ u2) ++ (v1 ++ v2)) ((u1 ++ v1) ++ (u2 ++ v2)) by simpa using h1).trans h2
theorem srt_append {u v : List (Int × β)} (h : Srt (u ++ v)) : Srt u ∧ Srt v ∧ ∀ p ∈ u, ∀ q ∈ v, p.1 ≤ q.1 := List.pairwise_append.1 h

/-- The number that stands at a place. -/
def keyAt (L : List (Int × β)) (i : Nat) : Int := (L[i]?.map (·.1)).getD 0
theorem key_some {L : List (Int × β)} {i : Nat} {p : Int × β} (h : L[i]? = some p) : keyAt L i = p.1 := by simp [keyAt, h]
theorem srt_key {u : List (Int × β)} (h : Srt u) {i j : Nat} (hij : i ≤ j) (hj : j < u.length) : keyAt u i ≤ keyAt u j := by
  rcases Nat.lt_or_ge i j with hlt | hge
  · rw [key_some (List.getElem?_eq_getElem hj), key_some (List.getElem?_eq_getElem (by omega : i < u.length))]
    exact List.pairwise_iff_getElem.1 h i j (by omega) hj hlt
  · obtain rfl : i = j := by omega
    exact Int.le_refl _
theorem key_off (x u r : List (Int × β)) {i : Nat} (h1 : x.length ≤ i) (h2 : i < x.length + u.length) : keyAt (x ++ u ++ r) i = keyAt u (i - x.length) := by
  unfold keyAt
  rw [List.append_assoc, List.getElem?_append_right h1, List.getElem?_append_left (by omega)]
/-- Places of a sorted stretch. -/
theorem key_mono {x u r : List (Int × β)} (h : Srt u) {i j : Nat} (h1 : x.length ≤ i) (hij : i ≤ j) (h2 : j < x.length + u.length) : keyAt (x ++ u ++ r) i ≤ keyAt (x ++ u ++ r) j := by
  rw [key_off x u r h1 (by omega), key_off x u r (by omega) h2]
  exact srt_key h (by omega) (by omega)
theorem mem_key {u : List (Int × β)} {p : Int × β} (h : p ∈ u) : ∃ i, i < u.length ∧ u[i]? = some p := by
  obtain ⟨i, hi, rfl⟩ := List.getElem_of_mem h
  exact ⟨i, hi, List.getElem?_eq_getElem hi⟩
/-- An element of a stretch is one of the row's places. -/
theorem mem_place {x u r : List (Int × β)} {p : Int × β} (h : p ∈ u) : ∃ i, x.length ≤ i ∧ i < x.length + u.length ∧ keyAt (x ++ u ++ r) i = p.1 := by
  obtain ⟨i, hi, he⟩ := mem_key h
  exact ⟨x.length + i, by omega, by omega, by rw [key_off x u r (by omega) (by omega), show x.length + i - x.length = i from by omega, key_some he]⟩

/-- A search by halves stands at st, r: all below st are, none from r on is. -/
def Bs (P : Nat → Bool) (s0 r0 st r : Nat) : Prop := s0 ≤ st ∧ st ≤ r ∧ r ≤ r0 ∧ (∀ c, s0 ≤ c → c < st → P c = true) ∧ (∀ c, r ≤ c → c < r0 → P c = false)
def Mon (P : Nat → Bool) (s0 r0 : Nat) : Prop := ∀ c d, s0 ≤ c → c ≤ d → d < r0 → P d = true → P c = true
theorem bs_start {P : Nat → Bool} {s0 r0 : Nat} (h : s0 ≤ r0) : Bs P s0 r0 s0 r0 := ⟨by omega, h, by omega, fun c h1 h2 => by omega, fun c h1 h2 => by omega⟩
theorem bs_yes {P : Nat → Bool} {s0 r0 st r c : Nat} (h : Bs P s0 r0 st r) (hm : Mon P s0 r0) (h1 : st ≤ c) (h2 : c < r) (hc : P c = true) : Bs P s0 r0 (c + 1) r := by
  obtain ⟨a1, a2, a3, a4, a5⟩ := h
  exact ⟨by omega, by omega, a3, fun d d1 d2 => hm d c d1 (by omega) (by omega) hc, a5⟩
theorem bs_no {P : Nat → Bool} {s0 r0 st r c : Nat} (h : Bs P s0 r0 st r) (hm : Mon P s0 r0) (h1 : st ≤ c) (h2 : c < r) (hc : P c = false) : Bs P s0 r0 st c := by
  obtain ⟨a1, a2, a3, a4, a5⟩ := h
  refine ⟨a1, h1, by omega, a4, fun d d1 d2 => ?_⟩
  rcases hd : P d with _ | _
  · rfl
  · rw [hm c d (by omega) d1 d2 hd] at hc; cases hc

/-- Two places, put one for the other. -/
theorem set2 {α : Type} (l0 l1 l2 : List α) (p q : α) (i j : Nat) (hi : i = l0.length) (hj : j = l0.length + 1 + l1.length) :
    ((l0 ++ p :: (l1 ++ q :: l2)).set i q).set j p = l0 ++ q :: (l1 ++ p :: l2) := by
  subst hi hj
  rw [List.set_append_right _ _ (by omega), Nat.sub_self, List.set_cons_zero, List.set_append_right _ _ (by omega), show l0.length + 1 + l1.length - l0.length = l1.length + 1 from by omega, List.set_cons_succ,
    List.set_append_right _ _ (by omega), Nat.sub_self, List.set_cons_zero]
theorem set2' {α : Type} (l0 l1 l2 : List α) (p q : α) (i j : Nat) (hi : i = l0.length) (hj : j = l0.length + 1 + l1.length) :
    ((l0 ++ p :: (l1 ++ q :: l2)).set j p).set i q = l0 ++ q :: (l1 ++ p :: l2) := by
  rw [List.set_comm _ _ (by omega)]
  exact set2 l0 l1 l2 p q i j hi hj
theorem at1 {α : Type} (l0 r : List α) (p : α) (i : Nat) (hi : i = l0.length) : (l0 ++ p :: r)[i]? = some p := by subst hi; simp
theorem at2 {α : Type} (l0 l1 l2 : List α) (p q : α) (j : Nat) (hj : j = l0.length + 1 + l1.length) : (l0 ++ p :: (l1 ++ q :: l2))[j]? = some q := by
  subst hj
  rw [List.getElem?_append_right (by omega), show l0.length + 1 + l1.length - l0.length = l1.length + 1 from by omega, List.getElem?_cons_succ]
  simp

/-- What the middle search finds: behind the cut at st the numbers to the right are below those to the left, ahead of it they are not. -/
def midP (L : List (Int × β)) (p c : Nat) : Bool := decide (keyAt L c ≤ keyAt L (p - c))
theorem mid_mon {x u v y : List (Int × β)} (hu : Srt u) (hv : Srt v) {p s0 r0 : Nat} (h1 : x.length ≤ s0) (h2 : r0 ≤ x.length + u.length) (h3 : ∀ c, s0 ≤ c → c < r0 → c ≤ p ∧ x.length + u.length ≤ p - c ∧ p - c < x.length + u.length + v.length) :
    Mon (midP (x ++ u ++ (v ++ y)) p) s0 r0 := by
  intro c d hc hcd hd h
  simp only [midP, decide_eq_true_eq] at h ⊢
  have e : x ++ u ++ (v ++ y) = (x ++ u) ++ v ++ y := by simp
  have k1 := key_mono (x := x) (u := u) (r := v ++ y) hu (show x.length ≤ c by omega) hcd (by omega)
  have k2 := key_mono (x := x ++ u) (u := v) (r := y) hv (i := p - d) (j := p - c) (by have := h3 d (by omega) hd; simp; omega) (by omega) (by have := h3 c hc (by omega); simp; omega)
  rw [← e] at k2
  omega
theorem mem_take_place {x u r : List (Int × β)} {p : Int × β} {k : Nat} (h : p ∈ u.take k) : ∃ i, x.length ≤ i ∧ i < x.length + k ∧ i < x.length + u.length ∧ keyAt (x ++ u ++ r) i = p.1 := by
  obtain ⟨i, h1, h2, h3⟩ := mem_place (x := x) (r := u.drop k ++ r) h
  have hl : (u.take k).length = min k u.length := List.length_take
  refine ⟨i, h1, by omega, by omega, ?_⟩
  rw [← h3]
  congr 1
  rw [List.append_assoc, List.append_assoc, ← List.append_assoc (u.take k), List.take_append_drop]
theorem mem_drop_place {x u r : List (Int × β)} {p : Int × β} {k : Nat} (hk : k ≤ u.length) (h : p ∈ u.drop k) : ∃ i, x.length + k ≤ i ∧ i < x.length + u.length ∧ keyAt (x ++ u ++ r) i = p.1 := by
  obtain ⟨i, h1, h2, h3⟩ := mem_place (x := x ++ u.take k) (r := r) h
  have hl : (u.take k).length = min k u.length := List.length_take
  have hd : (u.drop k).length = u.length - k := List.length_drop
  simp only [List.length_append] at h1 h2
  refine ⟨i, by omega, by omega, ?_⟩
  rw [← h3]
  congr 1
  rw [List.append_assoc x (u.take k), List.take_append_drop]
/-- The two cuts of the middle search. -/
theorem mid_cut {x u v y : List (Int × β)} (hu : Srt u) (hv : Srt v) {m mid b s0 r0 st en : Nat} (hm : m = x.length + u.length) (hb : b = m + v.length) (hen : en = mid + m - st) (h1 : x.length ≤ s0) (hr : r0 ≤ m)
    (hs : Bs (midP (x ++ u ++ (v ++ y)) (mid + m - 1)) s0 r0 st st) (hst : st ≤ mid + m) (hem : m ≤ en) (heb : en ≤ b) (c1 : st = s0 → st = x.length ∨ en = b) (c2 : st = r0 → st = m ∨ en = m) :
    (∀ p ∈ u.drop (st - x.length), ∀ q ∈ v.take (en - m), q.1 < p.1) ∧ (∀ p ∈ u.take (st - x.length), ∀ q ∈ v.drop (en - m), p.1 ≤ q.1) := by
  obtain ⟨a1, a2, a3, a4, a5⟩ := hs
  have e : x ++ u ++ (v ++ y) = (x ++ u) ++ v ++ y := by simp
  constructor
  · intro p hp q hq
    obtain ⟨i, i1, i2, i3⟩ := mem_drop_place (x := x) (r := v ++ y) (by omega) hp
    obtain ⟨j, j1, j2, j3, j4⟩ := mem_take_place (x := x ++ u) (r := y) hq
    simp only [List.length_append] at j1 j2 j3
    rcases Nat.lt_or_ge st r0 with hlt | hge
    · have h := a5 st (Nat.le_refl _) hlt
      simp only [midP, decide_eq_false_iff_not] at h
      have k1 := key_mono (x := x) (u := u) (r := v ++ y) hu (show x.length ≤ st by omega) (show st ≤ i by omega) (by omega)
      have k2 := key_mono (x := x ++ u) (u := v) (r := y) hv (i := j) (j := mid + m - 1 - st) (by simp; omega) (by omega) (by simp; omega)
      rw [e] at h k1 i3
      omega
    · rcases c2 (by omega) with h | h
      · omega
      · omega
  · intro p hp q hq
    obtain ⟨i, i1, i2, i3, i4⟩ := mem_take_place (x := x) (r := v ++ y) hp
    obtain ⟨j, j1, j2, j3⟩ := mem_drop_place (x := x ++ u) (r := y) (by omega) hq
    simp only [List.length_append] at j1 j2
    rcases Nat.lt_or_ge s0 st with hlt | hge
    · have h := a4 (st - 1) (by omega) (by omega)
      simp only [midP, decide_eq_true_eq] at h
      have k1 := key_mono (x := x) (u := u) (r := v ++ y) hu (show x.length ≤ i by omega) (show i ≤ st - 1 by omega) (by omega)
      have k2 := key_mono (x := x ++ u) (u := v) (r := y) hv (i := mid + m - 1 - (st - 1)) (j := j) (by simp; omega) (by omega) (by simp; omega)
      rw [e] at h k1 i4
      omega
    · rcases c1 (by omega) with h | h
      · omega
      · omega
/-- One element into a sorted row behind it. -/
theorem one_ahead {e : Int × β} {v : List (Int × β)} (hv : Srt v) {k : Nat} (h1 : ∀ p ∈ v.take k, p.1 < e.1) (h2 : ∀ p ∈ v.drop k, e.1 ≤ p.1) : Srt (v.take k ++ e :: v.drop k) ∧ StEq (e :: v) (v.take k ++ e :: v.drop k) := by
  have hv' : Srt (v.take k ++ v.drop k) := by rw [List.take_append_drop]; exact hv
  obtain ⟨s1, s2, s3⟩ := srt_append hv'
  refine ⟨List.pairwise_append.2 ⟨s1, List.pairwise_cons.2 ⟨h2, s2⟩, fun p hp q hq => ?_⟩, ?_⟩
  · rcases List.mem_cons.1 hq with rfl | hq
    · have := h1 p hp; omega
    · exact s3 p hp q hq
  · have h := (StEq.rot [e] (v.take k) (fun p hp q hq => by obtain rfl : p = e := by simpa using hp
                                                            exact h1 q hq)).append (StEq.refl (v.drop k))
    have e1 : [e] ++ v.take k ++ v.drop k = e :: v := by rw [List.append_assoc, List.take_append_drop]; rfl
    rw [e1] at h
    simpa using h
/-- One element into a sorted row ahead of it. -/
theorem one_behind {e : Int × β} {u : List (Int × β)} (hu : Srt u) {k : Nat} (h1 : ∀ p ∈ u.take k, p.1 ≤ e.1) (h2 : ∀ p ∈ u.drop k, e.1 < p.1) : Srt (u.take k ++ e :: u.drop k) ∧ StEq (u ++ [e]) (u.take k ++ e :: u.drop k) := by
  have hu' : Srt (u.take k ++ u.drop k) := by rw [List.take_append_drop]; exact hu
  obtain ⟨s1, s2, s3⟩ := srt_append hu'
  refine ⟨List.pairwise_append.2 ⟨s1, List.pairwise_cons.2 ⟨fun p hp => by have := h2 p hp; omega, s2⟩, fun p hp q hq => ?_⟩, ?_⟩
  · rcases List.mem_cons.1 hq with rfl | hq
    · exact h1 p hp
    · exact s3 p hp q hq
  · have h := (StEq.refl (u.take k)).append (StEq.ahead e (u.drop k) h2)
    rw [← List.append_assoc, List.take_append_drop] at h
    exact h
end
end Go.Proofs.YtlhaehefhhcgaaaDoor
