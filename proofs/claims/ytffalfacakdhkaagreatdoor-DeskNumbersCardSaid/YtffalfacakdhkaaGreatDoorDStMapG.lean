/-
  what this claim needs of: StMapG, StV (written by cut.py).
-/
import Derived.Maps.RangeWalk
import Derived.Maps.OwnSet
import Derived.DeepKeys
import Derived.Test.YtffalfacakdhkaaGreatDoorDMem
import Derived.ChangeKeys
namespace Go.Proofs.YtffalfacakdhkaaGreatDoor
open Go.Maps Go.WideElems Go.ChangeMaps
set_option linter.unusedVariables false
set_option linter.unusedSectionVars false

/-- An element reads as it lies. -/
def heldR (v : Value) : Option (DataW Value × List MemPlace) := some (.held v, [])

section
variable {α β : Type} [DecidableEq α]
/-- What stands at a key. -/
def aget : List (α × β) → α → Option β
 | [], _ => none
 | p :: r, x => if p.1 = x then some p.2 else aget r x
/-- Without a key. -/
def adel (M : List (α × β)) (x : α) : List (α × β) := M.filter (fun p => !decide (p.1 = x))
/-- With a key. -/
def aput (M : List (α × β)) (x : α) (v : β) : List (α × β) := (x, v) :: adel M x
/-- No key twice. -/
def Uniq (M : List (α × β)) : Prop := M.Pairwise (fun p q => p.1 ≠ q.1)

theorem aget_none {M : List (α × β)} {x : α} : aget M x = none ↔ ∀ p ∈ M, p.1 ≠ x := by
 induction M with
 | nil => simp [aget]
 | cons p r ih =>
  unfold aget
  by_cases h : p.1 = x
  ·simp [h]
  ·rw [if_neg h, ih]
   simp [h]
theorem aget_mem {M : List (α × β)} {x : α} {v : β} (h : aget M x = some v) : (x, v) ∈ M := by
 induction M with
 | nil => simp [aget] at h
 | cons p r ih =>
  unfold aget at h
  by_cases hp : p.1 = x
  ·rw [if_pos hp] at h
   injection h with h
   subst hp h
   exact List.mem_cons_self ..
  ·rw [if_neg hp] at h
   exact List.mem_cons_of_mem _ (ih h)
theorem aget_of_mem {M : List (α × β)} (hu : Uniq M) {x : α} {v : β} (h : (x, v) ∈ M) : aget M x = some v := by
 induction M with
 | nil => cases h
 | cons p r ih =>
  obtain ⟨h1, h2⟩ := List.pairwise_cons.1 hu
  unfold aget
  rcases List.mem_cons.1 h with e | h
  ·rw [← e]
   exact if_pos rfl
  ·rw [if_neg (h1 _ h)]
   exact ih h2 h
theorem aget_perm {M M' : List (α × β)} (hu : Uniq M) (hp : M.Perm M') (x : α) : aget M x = aget M' x := by
 have hu' : Uniq M' := (hp.pairwise_iff (fun {a b} h => Ne.symm h)).1 hu
 cases h : aget M x with
 | some v => exact (aget_of_mem hu' (hp.mem_iff.1 (aget_mem h))).symm
 | none =>
  symm
  rw [aget_none] at h ⊢
  exact fun p hp' => h p (hp.mem_iff.2 hp')
theorem aget_put (M : List (α × β)) (x : α) (v : β) (y : α) : aget (aput M x v) y = if x = y then some v else aget M y := by
 unfold aput
 rw [aget]
 by_cases h : x = y
 ·simp [h]
 ·simp only [h, if_false]
  induction M with
  | nil => rfl
  | cons p r ih =>
   unfold adel at ih ⊢
   rw [List.filter_cons]
   by_cases hp : p.1 = x
   ·simp only [hp, decide_true, Bool.not_true, Bool.false_eq_true, if_false]
    rw [ih]
    show _ = (if p.1 = y then some p.2 else aget r y)
    rw [if_neg (by rw [hp]; exact h)]
   ·simp only [hp, decide_false, Bool.not_false, if_true]
    unfold aget
    rw [ih]
theorem Uniq.del {M : List (α × β)} (h : Uniq M) (x : α) : Uniq (adel M x) := h.filter _
theorem Uniq.put {M : List (α × β)} (h : Uniq M) (x : α) (v : β) : Uniq (aput M x v) := by
 refine List.pairwise_cons.2 ⟨fun p hp e => ?_, h.del x⟩
 have := (List.mem_filter.1 hp).2
 simp only at e
 simp [e] at this
theorem Uniq.perm {M M' : List (α × β)} (h : Uniq M) (hp : M.Perm M') : Uniq M' := (hp.pairwise_iff (fun {a b} h => Ne.symm h)).1 h
theorem adel_none {M : List (α × β)} {x : α} (h : aget M x = none) : adel M x = M := by
 rw [aget_none] at h
 exact List.filter_eq_self.2 fun p hp => by simpa using h p hp
theorem adel_le (M : List (α × β)) (x : α) : (adel M x).length ≤ M.length := List.length_filter_le _ _
end

section
variable {α β : Type} [DecidableEq α] (P : Program) (k : TypeId) (kv : α → Value) (kl : α → Lit) (ve : β → Value)
/-- An entry, as it is read. -/
def entOf (p : α × β) : Lit × DataW Value := (kl p.1, .held (ve p.2))
/-- Block b is a map that holds the entries M, in whatever order. -/
def MapIs (w : World) (b : Nat) (M : List (α × β)) : Prop :=
 ∃ es, w.ownsMap P k heldR b M.length (.map es) ∧ es.Perm (M.map (entOf kl ve)) ∧ (∀ p ∈ M, keyOf P k (kv p.1) = some (kl p.1)) ∧ Uniq M
/-- A range over it is under way: todo is still to come. -/
def RangeIs (w : World) (b r : Nat) (M todo : List (α × β)) : Prop :=
 ∃ es left done, w.ranges P k heldR b r M.length (.map es) left todo.length ∧ es.Perm (M.map (entOf kl ve)) ∧ (∀ p ∈ M, keyOf P k (kv p.1) = some (kl p.1)) ∧ Uniq M ∧
  M.Perm (done ++ todo) ∧ (∀ p ∈ todo, left (kl p.1) = true) ∧ (∀ x, left x = true → ∃ p ∈ todo, x = kl p.1)
end

section
variable {α β : Type} [DecidableEq α] {P : Program} {k : TypeId} {kv : α → Value} {kl : α → Lit} {ve : β → Value} {w : World} {b : Nat} {M : List (α × β)}

theorem MapIs.made (w : World) (P : Program) (k : TypeId) (kv : α → Value) (kl : α → Lit) (ve : β → Value) : MapIs P k kv kl ve (w.alloc (.map #[] 0)) w.heap.size ([] : List (α × β)) :=
 ⟨[], World.ownsMap_made _ _ _ _, List.Perm.refl _, by intro p hp; simp at hp, List.Pairwise.nil⟩
theorem MapIs.uniq (h : MapIs P k kv kl ve w b M) : Uniq M := h.choose_spec.2.2.2
theorem MapIs.keys (h : MapIs P k kv kl ve w b M) : ∀ p ∈ M, keyOf P k (kv p.1) = some (kl p.1) := h.choose_spec.2.2.1
theorem MapIs.lt (h : MapIs P k kv kl ve w b M) : b < w.heap.size := h.choose_spec.1.lt
theorem MapIs.kept {w' : World} {row : Option Nat} (h : MapIs P k kv kl ve w b M) (hg : w.grownBy w' row) (hne : some b ≠ row) : MapIs P k kv kl ve w' b M := by
 obtain ⟨es, h1, h2⟩ := h
 exact ⟨es, h1.kept hg hne, h2⟩
theorem MapIs.same {w' : World} (h : MapIs P k kv kl ve w b M) (he : w'.heap[b]? = w.heap[b]?) : MapIs P k kv kl ve w' b M := by
 obtain ⟨es, ⟨es', clock, hb, r⟩, h2⟩ := h
 exact ⟨es, ⟨es', clock, he.trans hb, r⟩, h2⟩
theorem MapIs.drew (h : MapIs P k kv kl ve w b M) : MapIs P k kv kl ve w.drew b M := h

theorem ent_find (K : Keyed P k) {es : List (Lit × DataW Value)} {M : List (α × β)} (hp : es.Perm (M.map (entOf kl ve))) (hk : ∀ p ∈ M, keyOf P k (kv p.1) = some (kl p.1)) (hu : es.Pairwise (fun p q => p.1 ≠ q.1))
  {x : α} (hinj : ∀ p ∈ M, kl p.1 = kl x → p.1 = x) (hx : keyOf P k (kv x) = some (kl x)) : es.find? (fun p => p.1.sameKey (kl x)) = (aget M x).map (fun v => entOf kl ve (x, v)) := by
 cases h : aget M x with
 | some v =>
  have hm : entOf kl ve (x, v) ∈ es := hp.mem_iff.2 (List.mem_map.2 ⟨(x, v), aget_mem h, rfl⟩)
  have hkey := K.key (hk _ (aget_mem h))
  rw [Option.map_some]
  cases hf : es.find? (fun p => p.1.sameKey (kl x)) with
  | none =>
   have := List.find?_eq_none.1 hf _ hm
   simp only [entOf, WideAt.sameKey_self hkey, not_true] at this
  | some q =>
   have hq1 := List.mem_of_find?_eq_some hf
   have hq2 : q.1.sameKey (kl x) = true := by have := List.find?_some hf; exact this
   have hq2 := WideAt.sameKey_eq hq2
   by_cases e : q = entOf kl ve (x, v)
   ·rw [e]
   ·exact absurd hq2 (by
     have hs : ∀ {l : List (Lit × DataW Value)}, l.Pairwise (fun p q => p.1 ≠ q.1) → ∀ p ∈ l, ∀ q ∈ l, p ≠ q → p.1 ≠ q.1 := by
      intro l
      induction l with
      | nil => intro _ p hp; cases hp
      | cons a r ih =>
       intro hl p hp q hq hne
       obtain ⟨h1, h2⟩ := List.pairwise_cons.1 hl
       rcases List.mem_cons.1 hp with ep | hp <;> rcases List.mem_cons.1 hq with eq | hq
       ·exact absurd (ep.trans eq.symm) hne
       ·rw [ep]; exact h1 _ hq
       ·rw [eq]; exact (h1 _ hp).symm
       ·exact ih h2 p hp q hq hne
     exact hs hu q hq1 _ hm e)
 | none =>
  rw [Option.map_none, List.find?_eq_none]
  intro q hq hs
  obtain ⟨p, hpm, e⟩ := List.mem_map.1 (hp.mem_iff.1 hq)
  have := WideAt.sameKey_eq hs
  rw [← e] at this
  exact aget_none.1 h p hpm (hinj p hpm this)

theorem MapIs.atKey (K : Keyed P k) {es : List (Lit × DataW Value)} (hown : w.ownsMap P k heldR b M.length (.map es)) (hp : es.Perm (M.map (entOf kl ve))) (hk : ∀ p ∈ M, keyOf P k (kv p.1) = some (kl p.1))
  {x : α} (hinj : ∀ p ∈ M, kl p.1 = kl x → p.1 = x) (hx : keyOf P k (kv x) = some (kl x)) (z : DataW Value) : (DataW.map es).atKey (kl x) z = ((aget M x).map (fun v => DataW.held (ve v))).getD z := by
 obtain ⟨es', e, hu, _⟩ := hown.entries K
 injection e with e
 subst e
 have e : ∀ o, es.find? (fun p => p.1.sameKey (kl x)) = o → (DataW.map es).atKey (kl x) z = (o.map (·.2)).getD z := by
  intro o ho
  unfold DataW.atKey
  simp only [ho]
  cases o <;> rfl
 rw [e _ (ent_find K hp hk hu hinj hx)]
 cases aget M x <;> rfl
theorem MapIs.hasKey (K : Keyed P k) {es : List (Lit × DataW Value)} (hown : w.ownsMap P k heldR b M.length (.map es)) (hp : es.Perm (M.map (entOf kl ve))) (hk : ∀ p ∈ M, keyOf P k (kv p.1) = some (kl p.1))
  {x : α} (hinj : ∀ p ∈ M, kl p.1 = kl x → p.1 = x) (hx : keyOf P k (kv x) = some (kl x)) : Maps.has (DataW.map es) (kl x) = (aget M x).isSome := by
 obtain ⟨es', e, hu, _⟩ := hown.entries K
 injection e with e
 subst e
 rw [Maps.has_eq]
 have := ent_find K hp hk hu hinj hx
 rw [← List.isSome_find?, this]
 cases aget M x <;> rfl

/-- 'm[k]'. -/
theorem MapIs.look {t e : TypeId} (h : MapIs P k kv kl ve w b M) (K : Keyed P k) (ht : P.underlying t = some (.map k e)) {z : Value} (hz : (zeroValue e).run P w = .ok z w) {x : α} (hinj : ∀ p ∈ M, kl p.1 = kl x → p.1 = x) (hx : keyOf P k (kv x) = some (kl x)) :
  (Instr.lookup t (.map (some b)) (kv x) false).run P w = .ok (((aget M x).map ve).getD z) w := by
 obtain ⟨es, hown, hp, hk, hu⟩ := h
 obtain ⟨v, ps, hrun, hR⟩ := hown.lookup K ht hz (zd := .held z) (zp := []) rfl hx
 rw [MapIs.atKey K hown hp hk hinj hx] at hR
 rw [hrun]
 simp only [heldR, Option.some.injEq, Prod.mk.injEq] at hR
 have h2 := hR.1
 generalize aget M x = o at h2 ⊢
 cases o with
 | none => simp at h2; rw [h2]; rfl
 | some y => simp at h2; rw [h2]; rfl
/-- 'v, ok := m[k]'. -/
theorem MapIs.lookOk {t e : TypeId} (h : MapIs P k kv kl ve w b M) (K : Keyed P k) (ht : P.underlying t = some (.map k e)) {z : Value} (hz : (zeroValue e).run P w = .ok z w) {x : α} (hinj : ∀ p ∈ M, kl p.1 = kl x → p.1 = x) (hx : keyOf P k (kv x) = some (kl x)) :
  (Instr.lookup t (.map (some b)) (kv x) true).run P w = .ok (.tuple #[((aget M x).map ve).getD z, .bool (aget M x).isSome]) w := by
 obtain ⟨es, hown, hp, hk, hu⟩ := h
 obtain ⟨v, ps, hrun, hR⟩ := hown.look_ok K ht hz (zd := .held z) (zp := []) rfl hx
 rw [MapIs.atKey K hown hp hk hinj hx] at hR
 rw [hrun, MapIs.hasKey K hown hp hk hinj hx]
 simp only [heldR, Option.some.injEq, Prod.mk.injEq] at hR
 have h2 := hR.1
 generalize aget M x = o at h2 ⊢
 cases o with
 | none => simp at h2; rw [h2]; rfl
 | some y => simp at h2; rw [h2]; rfl
theorem ent_filter (K : Keyed P k) {M : List (α × β)} (hk : ∀ p ∈ M, keyOf P k (kv p.1) = some (kl p.1)) {x : α} (hinj : ∀ p ∈ M, kl p.1 = kl x → p.1 = x) (hx : keyOf P k (kv x) = some (kl x)) :
  (M.map (entOf kl ve)).filter (notKey (kl x)) = (adel M x).map (entOf kl ve) := by
 unfold adel
 rw [List.filter_map]
 congr 1
 apply List.filter_congr
 intro p hp
 show notKey (kl x) (entOf kl ve p) = _
 unfold notKey entOf
 by_cases h : p.1 = x
 ·rw [h, WideAt.sameKey_self (K.key hx)]
  simp
 ·rw [Maps.sameKey_ne (fun e => h (hinj p hp e))]
  simp [h]
theorem ownsMap_len {w : World} {n : Nat} {es : List (Lit × DataW Value)} (h : w.ownsMap P k heldR b n (.map es)) : w.ownsMap P k heldR b es.length (.map es) := by
 obtain ⟨es', clock, hb, F, hs, hD⟩ := h
 refine ⟨es', clock, hb, F, ?_, hD⟩
 injection hD with hD
 rw [hD, length_read]
 exact Nat.le_refl _
/-- 'm[k] = v'. -/
theorem MapIs.update {t e : TypeId} (h : MapIs P k kv kl ve w b M) (K : Keyed P k) (ht : P.underlying t = some (.map k e)) (hn : M.length < maxLen) {x : α} (hinj : ∀ p ∈ M, kl p.1 = kl x → p.1 = x) (hx : keyOf P k (kv x) = some (kl x)) (v : β) :
  ∃ w', (Instr.mapUpdate t (.map (some b)) (kv x) (ve v)).run P w = .ok () w' ∧ MapIs P k kv kl ve w' b (aput M x v) ∧ w.mapTurned w' b := by
 obtain ⟨es, hown, hp, hk, hu⟩ := h
 obtain ⟨w', hrun, h1, h2⟩ := hown.store K ht hn hx (d := .held (ve v)) (ps := []) rfl
 have hp' : (putKey (kl x) (.held (ve v)) es).Perm ((aput M x v).map (entOf kl ve)) := by
  unfold putKey aput
  rw [List.map_cons]
  refine (WideShapes.insert_perm _ _).trans (List.Perm.cons _ ?_)
  rw [← ent_filter K hk hinj hx]
  exact hp.filter _
 rw [DataW.put_eq] at h1
 refine ⟨w', hrun, ⟨_, ?_, hp', ?_, hu.put x v⟩, h2⟩
 ·have := ownsMap_len h1
  rw [hp'.length_eq, List.length_map] at this
  exact this
 ·intro p hp
  rcases List.mem_cons.1 hp with e | hp
  ·rw [e]; exact hx
  ·exact hk p (List.mem_filter.1 hp).1
/-- 'delete(m, k)'. -/
theorem MapIs.drop {t e : TypeId} (h : MapIs P k kv kl ve w b M) (K : Keyed P k) (ht : P.underlying t = some (.map k e)) {x : α} (hinj : ∀ p ∈ M, kl p.1 = kl x → p.1 = x) (hx : keyOf P k (kv x) = some (kl x)) (ty : TypeId) :
  ∃ w', (Builtin.delete_ #[t, k] ty #[.map (some b), kv x]).run P w = .ok (.tuple #[]) w' ∧ MapIs P k kv kl ve w' b (adel M x) ∧ w.mapTurned w' b := by
 obtain ⟨es, hown, hp, hk, hu⟩ := h
 obtain ⟨w', hrun, h1, h2⟩ := hown.drop K ht hx ty
 have hp' : (delKey (kl x) es).Perm ((adel M x).map (entOf kl ve)) := by
  unfold delKey
  rw [← ent_filter K hk hinj hx]
  exact hp.filter _
 rw [DataW.del_eq] at h1
 refine ⟨w', hrun, ⟨_, ?_, hp', ?_, hu.del x⟩, h2⟩
 ·have := ownsMap_len h1
  rw [hp'.length_eq, List.length_map] at this
  exact this
 ·intro p hp
  exact hk p (List.mem_filter.1 hp).1
/-- 'len(m)'. -/
theorem MapIs.len {t e : TypeId} (h : MapIs P k kv kl ve w b M) (ht : P.underlying t = some (.map k e)) (ty : TypeId) : (Builtin.len_ #[t] ty #[.map (some b)]).run P w = .ok (.int .i64 M.length) w := by
 obtain ⟨es, hown, hp, hk, hu⟩ := h
 have := hown.len ht ty
 rw [Maps.size_eq, hp.length_eq, List.length_map] at this
 exact this
/-- 'range m'. -/
theorem MapIs.range {t e : TypeId} (h : MapIs P k kv kl ve w b M) (K : Keyed P k) (ht : P.underlying t = some (.map k e)) :
  ∃ w', (Instr.range t (.map (some b))).run P w = .ok (.pointer (some ⟨w.heap.size, 0, none⟩)) w' ∧ RangeIs P k kv kl ve w' b w.heap.size M M ∧ w.grownBy w' none ∧ w'.heap.size = w.heap.size + 1 := by
 obtain ⟨es, hown, hp, hk, hu⟩ := h
 obtain ⟨w', hrun, h1, h2, h3⟩ := hown.range K ht
 have e1 : Maps.size (DataW.map es) = M.length := by rw [Maps.size_eq, hp.length_eq, List.length_map]
 rw [e1] at h1
 refine ⟨w', hrun, ⟨es, _, [], h1, hp, hk, hu, List.Perm.refl _, fun p hpm => ?_, fun x hx => ?_⟩, h2, h3⟩
 ·rw [Maps.has_eq, List.any_eq_true]
  exact ⟨_, hp.mem_iff.2 (List.mem_map.2 ⟨p, hpm, rfl⟩), WideAt.sameKey_self (K.key (hk p hpm))⟩
 ·rw [Maps.has_eq, List.any_eq_true] at hx
  obtain ⟨q, hq, hs⟩ := hx
  obtain ⟨p, hpm, e⟩ := List.mem_map.1 (hp.mem_iff.1 hq)
  refine ⟨p, hpm, ?_⟩
  rw [← WideAt.sameKey_eq hs, ← e]
  rfl
variable {r : Nat} {todo : List (α × β)}
theorem RangeIs.owns (h : RangeIs P k kv kl ve w b r M todo) : MapIs P k kv kl ve w b M := by
 obtain ⟨es, left, done, h1, h2, h3, h4, _⟩ := h
 exact ⟨es, h1.owns, h2, h3, h4⟩
theorem RangeIs.lt (h : RangeIs P k kv kl ve w b r M todo) : r < w.heap.size := by
 obtain ⟨es, left, done, h1, _⟩ := h
 exact h1.lt
theorem RangeIs.kept {w' : World} {row : Option Nat} (h : RangeIs P k kv kl ve w b r M todo) (hg : w.grownBy w' row) (hb' : some b ≠ row) (hr' : some r ≠ row) : RangeIs P k kv kl ve w' b r M todo := by
 obtain ⟨es, left, done, h1, h2⟩ := h
 exact ⟨es, left, done, h1.kept hg hb' hr', h2⟩
theorem RangeIs.sub (h : RangeIs P k kv kl ve w b r M todo) : ∃ done, M.Perm (done ++ todo) := by
 obtain ⟨es, left, done, h1, h2, h3, h4, h5, _⟩ := h
 exact ⟨done, h5⟩
theorem mem_split_perm {x : α × β} {l : List (α × β)} (h : x ∈ l) : ∃ l', l.Perm (x :: l') := by
 obtain ⟨a, c, rfl⟩ := List.append_of_mem h
 exact ⟨a ++ c, List.perm_middle⟩
/-- THE STEP. -/
theorem RangeIs.next (h : RangeIs P k kv kl ve w b r M todo) (K : Keyed P k) (hinj : ∀ p ∈ M, ∀ q ∈ M, kl p.1 = kl q.1 → p.1 = q.1) (ty : TypeId) :
  (todo = [] ∧ (Instr.next (.pointer (some ⟨r, 0, none⟩)) false ty).run P w = .ok (.tuple #[.bool false]) w) ∨
  ∃ p todo' w', todo.Perm (p :: todo') ∧ (Instr.next (.pointer (some ⟨r, 0, none⟩)) false ty).run P w = .ok (.tuple #[.bool true, kv p.1, ve p.2]) w' ∧
   RangeIs P k kv kl ve w' b r M todo' ∧ w.grownBy w' (some r) ∧ w'.heap.size = w.heap.size ∧ (Instr.entry (.pointer (some ⟨r, 0, none⟩))).run P w' = .ok (.tuple #[kv p.1, ve p.2]) w' := by
 obtain ⟨es, left, done, h1, hp, hk, hu, hd, hl1, hl2⟩ := h
 rcases h1.next K ty with ⟨h0, _, hrun⟩ | ⟨key, v, kl', y, w', cnt', hkey, hlk, hv, hat, hrun, hrg, hlt, hgr, hsz, hen⟩
 ·exact .inl ⟨List.length_eq_zero_iff.1 h0, hrun⟩
 ·right
  obtain ⟨p, hpt, e⟩ := hl2 _ hlk
  subst e
  have hpM : p ∈ M := hd.mem_iff.2 (List.mem_append_right _ hpt)
  obtain ⟨todo', hpt'⟩ := mem_split_perm hpt
  have e1 := K.inj hkey (hk p hpM)
  subst e1
  have e2 : y.1 = .held (ve p.2) := by
   rw [← hat (.held v), MapIs.atKey K h1.owns hp hk (fun q hq e => hinj q hq p hpM e) hkey, aget_of_mem hu hpM]
   rfl
  have e3 : v = ve p.2 := by
   simp only [heldR, Option.some.injEq] at hv
   rw [← hv] at e2
   simpa using e2
  subst e3
  -- how many are left
  have hinj' : ∀ q ∈ todo', kl q.1 ≠ kl p.1 := by
   intro q hq e
   have hqM : q ∈ M := hd.mem_iff.2 (List.mem_append_right _ (hpt'.mem_iff.2 (List.mem_cons_of_mem _ hq)))
   have hu2 : Uniq (done ++ (p :: todo')) := hu.perm (hd.trans (List.Perm.append_left _ hpt'))
   have hu3 := (List.pairwise_append.1 hu2).2.1
   exact (List.pairwise_cons.1 hu3).1 q hq (hinj q hqM p hpM e).symm
  obtain ⟨es', clock, since, seen, c0, g1, g2, g3, g4, g5, g6, g7, g8, g9, g10, g11⟩ := hrg
  have hcnt : cnt' = todo'.length := by
   rw [← g7]
   have key1 : ∀ (L : List MapEntry), L.Pairwise (fun x y => (rg P k heldR x).1 ≠ (rg P k heldR y).1) → (∀ x ∈ L, ∃ q ∈ todo', (rg P k heldR x).1 = kl q.1) → (∀ q ∈ todo', ∃ x ∈ L, (rg P k heldR x).1 = kl q.1) → L.length = todo'.length := by
    intro L hL h1 h2
    have hn1 : (L.map fun x => (rg P k heldR x).1).Nodup := by
     unfold List.Nodup
     rw [List.pairwise_map]
     exact hL
    have hu2 : Uniq (done ++ (p :: todo')) := hu.perm (hd.trans (List.Perm.append_left _ hpt'))
    have hu3 := (List.pairwise_cons.1 (List.pairwise_append.1 hu2).2.1).2
    have hn2 : (todo'.map fun q => kl q.1).Nodup := by
     unfold List.Nodup
     rw [List.pairwise_map]
     refine hu3.imp_of_mem ?_
     intro a c ha hc hne e
     have hm : ∀ q ∈ todo', q ∈ M := fun q hq => hd.mem_iff.2 (List.mem_append_right _ (hpt'.mem_iff.2 (List.mem_cons_of_mem _ hq)))
     exact hne (hinj a (hm a ha) c (hm c hc) e)
    have hperm : (L.map fun x => (rg P k heldR x).1).Perm (todo'.map fun q => kl q.1) := by
     refine (List.perm_ext_iff_of_nodup hn1 hn2).2 fun l => ?_
     rw [List.mem_map, List.mem_map]
     constructor
     ·rintro ⟨x, hx, rfl⟩
      obtain ⟨q, hq, e⟩ := h1 x hx
      exact ⟨q, hq, e.symm⟩
     ·rintro ⟨q, hq, rfl⟩
      obtain ⟨x, hx, e⟩ := h2 q hq
      exact ⟨x, hx, e⟩
    have := hperm.length_eq
    simpa using this
   have hfa := Maps.fit_apart K g2
   rw [List.pairwise_map] at hfa
   have hmem : ∀ x, x ∈ (leftOf es' seen).toList ↔ x ∈ es'.toList ∧ seen.contains x.born = false := by
    intro x
    simp [leftOf]
   have hsub : (leftOf es' seen).toList.Sublist es'.toList := by
    unfold leftOf
    rw [Array.toList_filter]
    exact List.filter_sublist
   rw [← Array.length_toList]
   refine key1 _ (hfa.sublist hsub) ?_ ?_
   ·intro x hx
    obtain ⟨hx1, hx2⟩ := (hmem x).1 hx
    have h8 := g8 x hx1
    rw [hx2] at h8
    simp only [Bool.not_false, Bool.and_eq_true, Bool.not_eq_true'] at h8
    obtain ⟨q, hq, e⟩ := hl2 _ h8.1
    rcases List.mem_cons.1 (hpt'.mem_iff.1 hq) with e' | hq'
    ·rw [e, e', WideAt.sameKey_self (K.key hkey)] at h8
     cases h8.2
    ·exact ⟨q, hq', e⟩
   ·intro q hq
    have hl := hl1 q (hpt'.mem_iff.2 (List.mem_cons_of_mem _ hq))
    obtain ⟨x, hx, e⟩ := g9 (kl q.1) (by simp only [hl, Maps.sameKey_ne (hinj' q hq), Bool.not_false, Bool.and_self])
    refine ⟨x, (hmem x).2 ⟨hx, ?_⟩, e⟩
    have h8 := g8 x hx
    rw [e] at h8
    simp only [hl, Maps.sameKey_ne (hinj' q hq), Bool.not_false, Bool.and_self] at h8
    simpa using h8.symm
  refine ⟨p, todo', w', hpt', hrun, ⟨es, _, done ++ [p], ⟨es', clock, since, seen, c0, g1, g2, g3, g4, g5, g6, g7.trans hcnt, g8, g9, g10, g11⟩, hp, hk, hu, ?_, ?_, ?_⟩, hgr, hsz, hen⟩
  ·rw [List.append_assoc]
   exact hd.trans (List.Perm.append_left _ hpt')
  ·intro q hq
   have hl := hl1 q (hpt'.mem_iff.2 (List.mem_cons_of_mem _ hq))
   simp only [hl, Maps.sameKey_ne (hinj' q hq), Bool.not_false, Bool.and_self]
  ·intro x hx
   simp only [Bool.and_eq_true, Bool.not_eq_true'] at hx
   obtain ⟨q, hq, e⟩ := hl2 _ hx.1
   rcases List.mem_cons.1 (hpt'.mem_iff.1 hq) with e' | hq'
   ·rw [e, e', WideAt.sameKey_self (K.key hkey)] at hx
    cases hx.2
   ·exact ⟨q, hq', e⟩
end
end Go.Proofs.YtffalfacakdhkaaGreatDoor
namespace Go.Proofs.YtffalfacakdhkaaGreatDoor
open Go.RowKit Go.Maps
set_option linter.unusedVariables false
set_option linter.unusedSimpArgs false

/-- A key: 32 bytes. -/
abbrev Key := {K : List Int // K.length = 32 ∧ ∀ z ∈ K, 0 ≤ z ∧ z < 256}
def keyL (K : Key) : List Value := K.1.map (Value.int .u8)
theorem keyL_len (K : Key) : (keyL K).length = 32 := by simp [keyL, K.2.1]
theorem keyL_inj {K L : Key} (h : keyL K = keyL L) : K = L := by
 apply Subtype.ext
 have : ∀ (xs ys : List Int), xs.map (Value.int .u8) = ys.map (Value.int .u8) → xs = ys := by
  intro xs
  induction xs with
  | nil => intro ys h; cases ys with
   | nil => rfl
   | cons _ _ => simp at h
  | cons x xs ih => intro ys h; cases ys with
   | nil => simp at h
   | cons y ys =>
    simp only [List.map_cons, List.cons.injEq, Value.int.injEq, true_and] at h
    rw [h.1, ih ys h.2]
 exact this _ _ h
def zKey : Key := ⟨List.replicate 32 0, by simp, fun z hz => by have := List.eq_of_mem_replicate hz; omega⟩
structure Pl where
 pos : Int
 sec : Int
 uni : Int
 ref : Int
structure Sl where
 key : Key
 off : Int
 mask : Int
structure It where
 kind : Int
 key : Key
 pl : Pl
 snap : Int
 unit : Int
 sl : Sl
structure Fr where
 key : Key
 pl : Pl
structure Pu where
 unit : Int
 sl : Sl
structure Cn where
 key : Key
 ref : Int
instance : DecidableEq Pl := fun a b => decidable_of_iff ((a.pos, a.sec, a.uni, a.ref) = (b.pos, b.sec, b.uni, b.ref)) (by cases a; cases b; simp)
instance : DecidableEq Sl := fun a b => decidable_of_iff ((a.key, a.off, a.mask) = (b.key, b.off, b.mask)) (by cases a; cases b; simp)
instance : DecidableEq It := fun a b => decidable_of_iff ((a.kind, a.key, a.pl, a.snap, a.unit, a.sl) = (b.kind, b.key, b.pl, b.snap, b.unit, b.sl)) (by cases a; cases b; simp)
def zPl : Pl := ⟨0, 0, 0, 0⟩
def zSl : Sl := ⟨zKey, 0, 0⟩
def plC (p : Pl) : List Value := [.int .i64 p.pos, .int .i64 p.sec, .int .i64 p.uni, .int .i64 p.ref]
def slC (s : Sl) : List Value := keyL s.key ++ [.int .i64 s.off, .int .i64 s.mask]
def itC (i : It) : List Value := .int .u8 i.kind :: (keyL i.key ++ (plC i.pl ++ (.int .i64 i.snap :: .int .i64 i.unit :: slC i.sl)))
def frC (f : Fr) : List Value := keyL f.key ++ plC f.pl
def puC (p : Pu) : List Value := .int .i64 p.unit :: slC p.sl
def cnC (c : Cn) : List Value := keyL c.key ++ [.int .i64 c.ref]
/-- The values themselves. -/
def vKey (K : Key) : Value := .agg (keyL K).toArray
def vPl (p : Pl) : Value := .agg (plC p).toArray
def vSl (s : Sl) : Value := .agg (slC s).toArray
theorem plC_len (p : Pl) : (plC p).length = 4 := rfl
theorem slC_len (s : Sl) : (slC s).length = 34 := by simp [slC, keyL_len]
theorem itC_len (i : It) : (itC i).length = 73 := by simp [itC, keyL_len, plC_len, slC_len]
theorem frC_len (f : Fr) : (frC f).length = 36 := by simp [frC, keyL_len, plC_len]
theorem puC_len (p : Pu) : (puC p).length = 35 := by simp [puC, slC_len]
theorem cnC_len (c : Cn) : (cnC c).length = 33 := by simp [cnC, keyL_len]
theorem keyL_one (K : Key) : ∀ v ∈ keyL K, v.oneCell' = true := by
 intro v hv
 obtain ⟨z, _, rfl⟩ := List.mem_map.1 hv
 rfl
theorem plC_one (p : Pl) : ∀ v ∈ plC p, v.oneCell' = true := by
 intro v hv
 simp [plC] at hv
 rcases hv with rfl | rfl | rfl | rfl <;> rfl
theorem slC_one (s : Sl) : ∀ v ∈ slC s, v.oneCell' = true := by
 intro v hv
 rcases List.mem_append.1 hv with h | h
 ·exact keyL_one _ v h
 ·simp at h
  rcases h with rfl | rfl <;> rfl
theorem itC_one (i : It) : ∀ v ∈ itC i, v.oneCell' = true := by
 intro v hv
 unfold itC at hv
 simp only [List.mem_cons, List.mem_append] at hv
 rcases hv with rfl | h | h | rfl | rfl | h
 ·rfl
 ·exact keyL_one _ v h
 ·exact plC_one _ v h
 ·rfl
 ·rfl
 ·exact slC_one _ v h
theorem frC_one (f : Fr) : ∀ v ∈ frC f, v.oneCell' = true := by
 intro v hv
 rcases List.mem_append.1 hv with h | h
 ·exact keyL_one _ v h
 ·exact plC_one _ v h
theorem puC_one (p : Pu) : ∀ v ∈ puC p, v.oneCell' = true := by
 intro v hv
 rcases List.mem_cons.1 hv with rfl | h
 ·rfl
 ·exact slC_one _ v h
theorem cnC_one (c : Cn) : ∀ v ∈ cnC c, v.oneCell' = true := by
 intro v hv
 rcases List.mem_append.1 hv with h | h
 ·exact keyL_one _ v h
 ·simp at h; subst h; rfl
theorem one_arr {l : List Value} (h : ∀ v ∈ l, v.oneCell' = true) : ∀ v ∈ l.toArray.toList, v.oneCell' = true := by simpa using h

def litsK (K : Key) : List Lit := K.1.map (Lit.int .u8)
def klK (K : Key) : Lit := .string (keyBytes (litsK K))
theorem u8_wf' {z : Int} (h : 0 ≤ z ∧ z < 256) : (Lit.int .u8 z).wf = true := by
 have e1 : IntKind.u8.min = 0 := by decide
 have e2 : IntKind.u8.max = 255 := by decide
 simp [Lit.wf, e1, e2]
 omega
theorem i64_wf' {z : Int} (h : -9223372036854775808 ≤ z ∧ z ≤ 9223372036854775807) : (Lit.int .i64 z).wf = true := by
 have e1 : IntKind.i64.min = -9223372036854775808 := by decide
 have e2 : IntKind.i64.max = 9223372036854775807 := by decide
 simp [Lit.wf, e1, e2]
 omega
theorem mapM_some'' {α β : Type} (f : α → Option β) (g : α → β) : ∀ l : List α, (∀ x ∈ l, f x = some (g x)) → l.mapM f = some (l.map g)
 | [], _ => rfl
 | x :: l, h => by
  rw [List.mapM_cons, h x (by simp), mapM_some'' f g l (fun y hy => h y (by simp [hy]))]
  rfl
theorem key_cellsOf : Tryz.prog.cellsOf 179 = 32 := by kernel_rfl
theorem u8_cellsOf : Tryz.prog.cellsOf 5 = 1 := by kernel_rfl
theorem u8_litsOf (d : Nat) (x : Int) (h : 0 ≤ x ∧ x < 256) : Tryz.prog.keyLits (d + 1) 5 [Value.int .u8 x] = some [Lit.int .u8 x] := by
 unfold Program.keyLits
 rw [Tryz.underlying5]
 simp [u8_wf' h]
theorem key_litsOf (d : Nat) (K : Key) : Tryz.prog.keyLits (d + 2) 179 (keyL K) = some (litsK K) := by
 unfold Program.keyLits
 rw [Tryz.underlying179]
 simp only [key_cellsOf, keyL_len, if_true, u8_cellsOf]
 rw [mapM_some'' _ (fun i => [Lit.int .u8 (K.1.getD i 0)]) (List.range 32) (fun i hi => ?_)]
 ·have : ((List.range 32).map fun i => [Lit.int .u8 (K.1.getD i 0)]).flatten = litsK K := by
   rw [← List.flatMap_def, ← List.map_eq_flatMap]
   apply List.ext_getElem (by simp [litsK, K.2.1])
   intro i h1 h2
   simp only [List.getElem_map, List.getElem_range, litsK]
   rw [List.getD_eq_getElem?_getD, List.getElem?_eq_getElem (by simpa [litsK] using h2)]
   rfl
  rw [Option.map_some, this]
 ·have hi := List.mem_range.1 hi
  have e : ((keyL K).drop (i * 1)).take 1 = [Value.int .u8 (K.1.getD i 0)] := by
   rw [Nat.mul_one, List.getD_eq_getElem?_getD, List.getElem?_eq_getElem (by rw [K.2.1]; exact hi), List.drop_eq_getElem_cons (by rw [keyL_len]; exact hi), List.take_succ_cons, List.take_zero]
   simp [keyL]
  rw [e]
  refine u8_litsOf d _ ?_
  rw [List.getD_eq_getElem?_getD, List.getElem?_eq_getElem (by rw [K.2.1]; exact hi)]
  exact K.2.2 _ (List.getElem_mem _)
theorem types_two : ∃ n, Tryz.prog.types.size + 1 = n + 4 := ⟨Tryz.prog.types.size - 3, by
 have : Tryz.prog.types.size = 3 + (Tryz.prog.types.size - 3) := by kernel_rfl
 omega⟩
theorem key_type : Tryz.prog.keyType 179 = true := by kernel_rfl
theorem keyOf_key (K : Key) : keyOf Tryz.prog 179 (vKey K) = some (klK K) := by
 obtain ⟨n, hn⟩ := types_two
 have hf : (vKey K).formed Tryz.prog 179 = true := by simp [vKey, Value.formed, Tryz.underlying179, key_cellsOf, keyL_len]
 unfold keyOf
 rw [Tryz.underlying179]
 simp only [key_type, hf, Bool.and_self, if_true, hn]
 have : (vKey K).cells.toList = keyL K := by simp [vKey, Value.cells]
 rw [this, key_litsOf (n + 2) K]
 rfl
theorem keyed_key : Keyed Tryz.prog 179 := Keyed.of_law (deep_law (m := 2) (by omega) (by kernel_rfl) (by kernel_rfl) (by rw [Tryz.underlying179]))
theorem klK_inj {K L : Key} (h : klK K = klK L) : K = L := by
 have h1 := keyOf_key K
 rw [h] at h1
 have := keyed_key.inj h1 (keyOf_key L)
 have h2 : (keyL K).toArray = (keyL L).toArray := Value.agg.inj this
 exact keyL_inj (by simpa using congrArg Array.toList h2)
theorem keyed_int : Keyed Tryz.prog 3 := int_keyed Tryz.underlying3
theorem keyOf_i64 {n : Int} (h : -9223372036854775808 ≤ n ∧ n ≤ 9223372036854775807) : keyOf Tryz.prog 3 (.int .i64 n) = some (.int .i64 n) := keyOf_int_mk Tryz.underlying3 (i64_wf' h)
theorem keyed_u8 : Keyed Tryz.prog 134 := int_keyed Tryz.underlying134
theorem keyOf_u8 {n : Int} (h : 0 ≤ n ∧ n < 256) : keyOf Tryz.prog 134 (.int .u8 n) = some (.int .u8 n) := keyOf_int_mk Tryz.underlying134 (u8_wf' h)
end Go.Proofs.YtffalfacakdhkaaGreatDoor
