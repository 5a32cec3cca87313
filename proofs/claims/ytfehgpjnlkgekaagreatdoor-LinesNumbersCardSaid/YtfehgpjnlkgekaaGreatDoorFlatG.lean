/-
  rows of elements of whatever size that lie apart: what peatbankkit's flat.. ask of memory.
-/
import Derived.Test.YtfehgpjnlkgekaaGreatDoorApart8
namespace Go.Proofs.YtfehgpjnlkgekaaGreatDoor
open Go.RowKit
set_option linter.unusedVariables false

theorem own_keptG {w w' : World} {base n sz : Nat} {e : TypeId} {v : Value} {xs : List Value} {r : Option Nat} (h : w.ownsRow base e sz v n xs) (hg : w.grownBy w' r) (ha : ∀ b, r = some b → v.ownBlock ≠ some b) : w'.ownsRow base e sz v n xs :=
  h.kept hg (by
    cases r with
    | none => cases hv : v.ownBlock <;> simp
    | some b => exact .inr (ha b rfl))
theorem own_belowG {w w' : World} {base n sz : Nat} {e : TypeId} {v : Value} {xs : List Value} (h : w.ownsRow base e sz v n xs) (hb : Below w.heap.size w w') : w'.ownsRow base e sz v n xs := by
  refine ⟨h.1, h.2.imp id ?_⟩
  rintro ⟨g, cap, cur, e1, a1, a2, r⟩
  have h3 : Blk w g e cur := a2
  exact ⟨g, cap, cur, e1, a1, h3.below hb h3.lt, r⟩
theorem own_subG {w : World} {base g n c sz : Nat} {e : TypeId} {xs : List Value} (h : w.ownsRow base e sz (.slice (some ⟨g, 0, none⟩) n c) n xs) (m : Nat) (hm : m ≤ n) : w.ownsRow base e sz (.slice (some ⟨g, 0, none⟩) m c) m (xs.take (m * sz)) := by
  have hms := Nat.mul_le_mul_right sz hm
  rcases h.2 with ⟨h0, _⟩ | ⟨g', cap, cur, hv, hb, hg, hnc, hcm, hcs, ht⟩
  · cases h0
  · injection hv with a1 a2 a3
    injection a1 with a1
    injection a1 with a1
    subst a1 a3
    refine ⟨by rw [List.length_take, h.1]; omega, .inr ⟨g, c, cur, rfl, hb, hg, by omega, hcm, hcs, ?_⟩⟩
    rw [← ht, List.take_take, Nat.min_eq_left hms]
section
variable {w : World} {ops : Array Oper} {rest : List Oper} {o : Oper} {a : Act} {Q : Exit → Act → World → Prop}
/-- append, and where the row lies then. -/
theorem app_fineG {P : Program} (hgd : o.guard = none) (s x : Operand) (t : TypeId) (ho : o.op = .call { callee := .builtin .append, args := #[s, x], argTypes := #[t, t] })
    (base : Nat) (e : TypeId) (z : Value) (sz bytes : Nat) (hsz : 0 < sz) (ht : P.underlying t = some (.slice e)) (hi : (P.info? e).map (fun i => (i.zero, i.size, i.bytes)) = some (some z, sz, bytes)) (hzs : z.cells.size = sz)
    (v : Value) (n : Nat) (xs : List Value) (hs : a.eval s = v) (hown : w.ownsRow base e sz v n xs) (u : Value) (m : Nat) (ys : List Value) (hx : a.eval x = u) (hsrc : Src w sz u m ys) (h1 : ∀ y ∈ ys, y.oneCell' = true) (hm : 0 < m)
    (h63 : n + m ≤ 35184372088832) (hbytes : (n + m) * bytes ≤ 140737488355328) (hbase : base ≤ w.heap.size)
    (h : ∀ v' w1, w1.ownsRow base e sz v' (n + m) (xs ++ ys) → ((∃ g c, v = .slice (some ⟨g, 0, none⟩) n c ∧ v' = .slice (some ⟨g, 0, none⟩) (n + m) c ∧ w.grownBy w1 (some g)) ∨ (v'.ownBlock = some w.heap.size ∧ w.grownBy w1 none)) → wpList P ops Q rest (a.put o.dst v') w1) : wpList P ops Q (o :: rest) a w := by
  obtain ⟨i0, hi', hz0, hz1, hz2⟩ := info_parts hi
  obtain ⟨A, c, rfl, hl, hc⟩ := hsrc
  obtain ⟨b, off, rfl, hlt, hcell⟩ := hc hm
  have hnews : ∀ j y, ys[j]? = some y → w.cell? ((⟨b, off, none⟩ : Addr).add j) = some y := fun j y hy => by rw [Addr.add_mid]; exact hcell j y hy
  have hmx : n + m ≤ maxLen := by unfold maxLen; omega
  refine wpList_plain hgd fun K hK => ?_
  obtain ⟨v', w', hr, h2, h3, h4, h5⟩ := run_append_own_at (P := P) w base t o.type e i0 z sz bytes ht hi' hz0 hz1 hz2 hzs hsz v n xs hown ⟨b, off, none⟩ m c ys hl hnews h1 hmx hbytes hbase
  have fine : (∃ g c, v = .slice (some ⟨g, 0, none⟩) n c ∧ v' = .slice (some ⟨g, 0, none⟩) (n + m) c ∧ w.grownBy w' (some g)) ∨ (v'.ownBlock = some w.heap.size ∧ w.grownBy w' none) := by
    rcases hown.2 with ⟨rfl, rfl⟩ | ⟨g, cap, cur, rfl, hb, hg, hnc, hcm, hcs, htk⟩
    · have hr2 := run_append_nil (P := P) w t o.type e i0 z ht hi' hz0 ⟨b, off, none⟩ m c ys (by rw [hz1]; exact hl) hnews hm (by omega) (by rw [hz2]; rw [Nat.zero_add] at hbytes; omega)
      rw [hr] at hr2
      injection hr2 with e1 e2
      subst e1 e2
      exact .inr ⟨rfl, ⟨rfl, rfl, rfl, by simp, fun k hk _ => Below.heap_alloc w.drew _ k hk⟩⟩
    · by_cases hroom : n + m ≤ cap
      · obtain ⟨w2, hr2, r1, r2⟩ := run_append_fits (P := P) w base t o.type e i0 sz ht hi' hz1 g n cap xs hown ⟨b, off, none⟩ m c ys hl hnews h1 hroom
        rw [hr] at hr2
        injection hr2 with e1 e2
        subst e1 e2
        exact .inl ⟨g, cap, rfl, rfl, r2⟩
      · have hr2 := run_append_grow (P := P) w t o.type e i0 z ht hi' hz0 ⟨g, 0, none⟩ n cap xs (by rw [hz1]; exact hown.1) (hown.cells (g := g) rfl) ⟨b, off, none⟩ m c ys (by rw [hz1]; exact hl) hnews (by omega) (by omega) (growslice_fits (by omega) (by rw [hz2]; exact hbytes))
        rw [hr] at hr2
        injection hr2 with e1 e2
        subst e1 e2
        exact .inr ⟨rfl, ⟨rfl, rfl, rfl, by simp, fun k hk _ => Below.heap_alloc w.drew _ k hk⟩⟩
  unfold Oper.wp execOp
  simp only [ho, resolve, invoke, builtin, Sem.run_bind, Sem.run_pure, Result.andThen_ok, List.map_toArray, List.map_cons, List.map_nil, hs, hx, hr]
  exact hK _ _ (h v' w' h2 fine)
end
theorem putAt_take (vs : List Value) (cs : Array Value) (o : Nat) (h : o + vs.length ≤ cs.size) : (putAt cs o vs).toList.take (o + vs.length) = cs.toList.take o ++ vs := by
  apply List.ext_getElem?
  intro j
  rcases Nat.lt_or_ge j o with h1 | h1
  · rw [List.getElem?_take_of_lt (by omega), List.getElem?_append_left (by simp; omega), List.getElem?_take_of_lt h1, Array.getElem?_toList, Array.getElem?_toList, putAt_out _ _ _ _ (.inl h1)]
  · rw [List.getElem?_append_right (by simp; omega)]
    have e : (cs.toList.take o).length = o := by simp; omega
    rw [e]
    rcases Nat.lt_or_ge j (o + vs.length) with h2 | h2
    · rw [List.getElem?_take_of_lt h2, Array.getElem?_toList]
      have := putAt_in vs cs o (j - o) (by omega) h
      rwa [show o + (j - o) = j by omega] at this
    · rw [List.getElem?_eq_none (by simp; omega), List.getElem?_eq_none (by omega)]
/-- A whole element of a row is stored. -/
theorem wpl_store_el {P : Program} {ops : Array Oper} {rest : List Oper} {op : Oper} {a : Act} {Q : Exit → Act → World → Prop} {w : World} (hgd : op.guard = none) (ty : TypeId) (x y : Operand) (ho : op.op = .store ty x y) (base g i n c sz : Nat) (E : TypeId) (vs : Array Value) (hx : a.eval x = .pointer (some ⟨g, i * sz, none⟩)) (hy : a.eval y = .agg vs)
    (xs : List Value) (hown : w.ownsRow base E sz (.slice (some ⟨g, 0, none⟩) n c) n xs) (hi : i < n) (hv : vs.size = sz) (hinf : (P.info? ty).map (·.size) = some sz) (h1 : ∀ v ∈ vs.toList, v.oneCell' = true)
    (h : ∀ w1 ys, w1.ownsRow base E sz (.slice (some ⟨g, 0, none⟩) n c) n ys → w.grownBy w1 (some g) → ys.take ((i + 1) * sz) = xs.take (i * sz) ++ vs.toList → wpList P ops Q rest (a.put op.dst undef) w1) : wpList P ops Q (op :: rest) a w := by
  have hmul : (i + 1) * sz ≤ n * sz := Nat.mul_le_mul_right _ hi
  rw [Nat.succ_mul] at hmul
  rcases hown.2 with ⟨h0, _⟩ | ⟨g', cap, cur, hv', hb, hg, hnc, hcm, hcs, ht⟩
  · cases h0
  · injection hv' with a1 a2 a3
    injection a1 with a1
    injection a1 with a1
    subst a1 a3
    have hB : Blk w g E cur := hg
    have hcn : n * sz ≤ c * sz := Nat.mul_le_mul_right _ hnc
    refine wpList_store_mid hgd ty x y ho g (i * sz) vs hx hy (hB.isThere (i * sz) _ (by omega)) (by rw [hinf, hv]) (by have := all_oneCell_toArray h1; simpa using this) (h _ ((putAt cur (i * sz) vs.toList).toList.take (n * sz)) ⟨by rw [List.length_take, Array.length_toList, size_putAt]; omega, .inr ⟨g, c, _, rfl, hb, Blk.puts vs.toList w cur (i * sz) hB, hnc, hcm, by rw [size_putAt]; exact hcs, rfl⟩⟩ (grown_setCells _ w (i * sz)).1 ?_)
    rw [List.take_take, Nat.min_eq_left (by rw [Nat.succ_mul]; omega), ← ht, List.take_take, Nat.min_eq_left (by omega)]
    have := putAt_take vs.toList cur (i * sz) (by rw [Array.length_toList]; omega)
    rw [Array.length_toList, hv] at this
    rw [Nat.succ_mul]
    exact this
/-- The marks of the first m places of a row. -/
def mksG (mk : Nat → Nat → List Value) (k m : Nat) : List Value := (List.range m).flatMap (mk k)
theorem mksG_succ (mk : Nat → Nat → List Value) (k m : Nat) : mksG mk k (m + 1) = mksG mk k m ++ mk k m := by simp [mksG, List.range_succ]
section
variable {sz : Nat} {mk : Nat → Nat → List Value} (hmk : ∀ k i, (mk k i).length = sz)
include hmk
theorem mksG_len (k m : Nat) : (mksG mk k m).length = m * sz := by
  induction m with
  | zero => simp [mksG]
  | succ m ih => rw [mksG_succ, List.length_append, ih, hmk, Nat.succ_mul]
theorem mksG_take (k m i : Nat) (h : i ≤ m) : (mksG mk k m).take (i * sz) = mksG mk k i := by
  induction m with
  | zero =>
    have : i = 0 := by omega
    subst this
    simp [mksG]
  | succ m ih =>
    rcases Nat.lt_or_ge i (m + 1) with h1 | h1
    · rw [mksG_succ, List.take_append_of_le_length (by rw [mksG_len hmk]; exact Nat.mul_le_mul_right _ (by omega))]
      exact ih (by omega)
    · have : i = m + 1 := by omega
      subst this
      rw [List.take_of_length_le (by rw [mksG_len hmk]; exact Nat.le_refl _)]
theorem mksG_get (k m i j : Nat) (h : i < m) (hj : j < sz) : (mksG mk k m)[i * sz + j]? = (mk k i)[j]? := by
  have h1 := mksG_take hmk k m (i + 1) h
  have h2 : ((mksG mk k m).take ((i + 1) * sz))[i * sz + j]? = (mksG mk k m)[i * sz + j]? := by
    rw [List.getElem?_take_of_lt]
    rw [Nat.succ_mul]; omega
  rw [← h2, h1, mksG_succ, List.getElem?_append_right (by rw [mksG_len hmk]; omega), mksG_len hmk]
  congr 1
  omega
end
section
variable (E RE : TypeId) (sz : Nat)
/-- Rows of one's own. -/
def FamG (w : World) (base K : Nat) (V : Nat → Value) (n : Nat → Nat) (X : Nat → List Value) : Prop := ∀ k, k < K → w.ownsRow base E sz (V k) (n k) (X k)
/-- The list of them. -/
def LAtG (w : World) (L K : Nat) (V : Nat → Value) : Prop := ∃ cs, Blk w L RE cs ∧ ∀ k, k < K → cs[k]? = some (V k)
/-- What is below stays, and whatever is no such row. -/
def BelG (base : Nat) (w w' : World) : Prop := Below base w w' ∧ base ≤ w.heap.size ∧ ∀ g t cs, Blk w g t cs → t ≠ E → Blk w' g t cs
end
section
variable {E RE : TypeId} {sz : Nat}
theorem FamG.kept {w w' : World} {base K : Nat} {V : Nat → Value} {n : Nat → Nat} {X : Nat → List Value} {r : Option Nat} (h : FamG E sz w base K V n X) (hg : w.grownBy w' r) (ha : ∀ b, r = some b → ∀ k, k < K → (V k).ownBlock ≠ some b) : FamG E sz w' base K V n X :=
  fun k hk => own_keptG (h k hk) hg (fun b hb => ha b hb k hk)
theorem FamG.below {w w' : World} {base K : Nat} {V : Nat → Value} {n : Nat → Nat} {X : Nat → List Value} (h : FamG E sz w base K V n X) (hb : Below w.heap.size w w') : FamG E sz w' base K V n X := fun k hk => own_belowG (h k hk) hb
theorem LAtG.cell {w : World} {L K : Nat} {V : Nat → Value} (h : LAtG RE w L K V) {k : Nat} (hk : k < K) : w.cell? ⟨L, k, none⟩ = some (V k) := by
  obtain ⟨cs, h1, h2⟩ := h
  exact h1.cell (h2 k hk)
theorem LAtG.free {w : World} {L K : Nat} {V : Nat → Value} (h : LAtG RE w L K V) (k : Nat) : w.frozen? ⟨L, k, none⟩ = false := by
  obtain ⟨cs, h1, h2⟩ := h
  exact h1.free k
theorem LAtG.kept {w w' : World} {L K : Nat} {V : Nat → Value} {r : Option Nat} (h : LAtG RE w L K V) (hg : w.grownBy w' r) (hr : r ≠ some L) : LAtG RE w' L K V := by
  obtain ⟨cs, h1, h2⟩ := h
  exact ⟨cs, h1.grown hg (fun e => hr e.symm), h2⟩
theorem LAtG.below {w w' : World} {L K : Nat} {V : Nat → Value} (h : LAtG RE w L K V) (hb : Below w.heap.size w w') : LAtG RE w' L K V := by
  obtain ⟨cs, h1, h2⟩ := h
  exact ⟨cs, h1.below hb h1.lt, h2⟩
theorem LAtG.lt {w : World} {L K : Nat} {V : Nat → Value} (h : LAtG RE w L K V) : L < w.heap.size := by
  obtain ⟨cs, h1, h2⟩ := h
  exact h1.lt
theorem LAtG.put {w : World} {L K : Nat} {V : Nat → Value} (h : LAtG RE w L K V) (k : Nat) (v : Value) (hk : k < K) : LAtG RE (w.setCell ⟨L, k, none⟩ v) L K (updV V k v) := by
  obtain ⟨cs, h1, h2⟩ := h
  refine ⟨_, h1.put k v, fun j hj => ?_⟩
  by_cases hjk : j = k
  · subst hjk
    have := h2 j hj
    have hlt : j < cs.size := by
      rcases Nat.lt_or_ge j cs.size with h | h
      · exact h
      · rw [Array.getElem?_eq_none h] at this; cases this
    rw [updV_same, Array.getElem?_setIfInBounds_self_of_lt hlt]
  · rw [updV_else _ _ _ hjk, Array.getElem?_setIfInBounds_ne (fun e => hjk e.symm)]
    exact h2 j hj
theorem row_neG {w : World} {s sz : Nat} {t e : TypeId} {cs : Array Value} {base n : Nat} {v : Value} {xs : List Value} (hb : Blk w s t cs) (h : w.ownsRow base e sz v n xs) (ht : t ≠ e) : v.ownBlock ≠ some s := by
  intro hv
  rcases h.2 with ⟨rfl, _⟩ | ⟨g, cap, cur, rfl, a1, a2, _⟩
  · cases hv
  · injection hv with hv
    subst hv
    have h3 : Blk w g e cur := a2
    unfold Blk at hb h3
    rw [hb] at h3
    injection h3 with h3
    injection h3 with _ h3
    exact ht h3
/-- A row is no list of rows. -/
theorem LAtG.ne (hne : RE ≠ E) {w : World} {L K base n : Nat} {V : Nat → Value} {v : Value} {xs : List Value} (h : LAtG RE w L K V) (ho : w.ownsRow base E sz v n xs) : v.ownBlock ≠ some L := by
  obtain ⟨cs, h1, h2⟩ := h
  exact row_neG h1 ho hne
theorem BelG.refl {base : Nat} {w : World} (hb : base ≤ w.heap.size) : BelG E base w w := ⟨Below.refl _ _, hb, fun _ _ _ h _ => h⟩
theorem BelG.le {base : Nat} {w w' : World} (h : BelG E base w w') : base ≤ w'.heap.size := Nat.le_trans h.2.1 h.1.size
theorem BelG.below {base : Nat} {w w1 w2 : World} (h : BelG E base w w1) (hb : Below w1.heap.size w1 w2) : BelG E base w w2 :=
  ⟨h.1.trans (hb.mono h.le), h.2.1, fun g t cs hg ht => (h.2.2 g t cs hg ht).below hb (h.2.2 g t cs hg ht).lt⟩
/-- A row's own block is turned. -/
theorem BelG.turn {base n : Nat} {w w1 w2 : World} {v : Value} {xs : List Value} (h : BelG E base w w1) (ho : w1.ownsRow base E sz v n xs) {g : Nat} (hv : v.ownBlock = some g) (hg : w1.grownBy w2 (some g)) : BelG E base w w2 := by
  refine ⟨h.1.grown hg h.le (fun b hb => by injection hb with hb; subst hb; exact (ho.lt g hv).1), h.2.1, fun g' t cs hg' ht => ?_⟩
  refine (h.2.2 g' t cs hg' ht).grown hg (fun e => ?_)
  injection e with e
  subst e
  exact row_neG (h.2.2 _ t cs hg' ht) ho ht hv
theorem BelG.putNew {base : Nat} {w w1 : World} (h : BelG E base w w1) {g : Nat} (hg : w.heap.size ≤ g) (i : Nat) (u : Value) : BelG E base w (w1.setCell ⟨g, i, none⟩ u) := by
  refine ⟨⟨h.1.os, h.1.tape, h.1.output, by simpa using h.1.size, fun k hk => (Below.heap_setCell w1 ⟨g, i, none⟩ u k (fun e => by have := h.2.1; simp only at e; omega)).trans (h.1.block k hk)⟩, h.2.1, fun g' t cs hg' ht => ?_⟩
  refine (h.2.2 g' t cs hg' ht).else_ ?_ u
  have := hg'.lt
  intro e
  simp only at e
  omega
theorem BelG.none {base : Nat} {w w1 w2 : World} (h : BelG E base w w1) (hg : w1.grownBy w2 none) : BelG E base w w2 := h.below (bl_n (Below.refl _ _) hg)
theorem BelG.app {base m p : Nat} {w w1 w2 : World} {v v' : Value} {xs : List Value} (h : BelG E base w w1) (ho : w1.ownsRow base E sz v m xs)
    (hf : (∃ g c, v = .slice (some ⟨g, 0, Option.none⟩) m c ∧ v' = .slice (some ⟨g, 0, Option.none⟩) (m + p) c ∧ w1.grownBy w2 (some g)) ∨ (v'.ownBlock = some w1.heap.size ∧ w1.grownBy w2 Option.none)) : BelG E base w w2 := by
  rcases hf with ⟨g, c, e1, _, hg⟩ | ⟨_, hg⟩
  · exact h.turn ho (by rw [e1]; rfl) hg
  · exact h.none hg
theorem Ap.freshG {w : World} {v u : Value} {base n : Nat} {e : TypeId} {xs : List Value} (hv : v.ownBlock = some w.heap.size) (ho : w.ownsRow base e sz u n xs) : Ap v u := fun b hb hu => by
  rw [hv] at hb
  injection hb with hb
  have := (ho.lt b hu).2
  omega
end
section
variable (E RE : TypeId) (sz : Nat) (mk : Nat → Nat → List Value)
/-- The rows, and those that have been grown out of the first k. -/
def StG (w : World) (base L Gb K : Nat) (V : Nat → Value) (n : Nat → Nat) (Y : Nat → List Value) (k : Nat) (G : Nat → Value) : Prop :=
  FamG E sz w base K V n (fun j => mksG mk j (n j)) ∧ LAtG RE w L K V ∧ LAtG RE w Gb K G ∧ FamG E sz w base k G (fun j => n j + 64) Y ∧ Apt2 K k V G ∧ Apt k G G
end
section
variable {E RE : TypeId} {sz : Nat} {mk : Nat → Nat → List Value}
theorem StG.below {w w' : World} {base L Gb K : Nat} {V : Nat → Value} {n : Nat → Nat} {Y : Nat → List Value} {k : Nat} {G : Nat → Value} (h : StG E RE sz mk w base L Gb K V n Y k G) (hb : Below w.heap.size w w') : StG E RE sz mk w' base L Gb K V n Y k G :=
  ⟨h.1.below hb, h.2.1.below hb, h.2.2.1.below hb, h.2.2.2.1.below hb, h.2.2.2.2.1, h.2.2.2.2.2⟩
theorem StG.app (hne : RE ≠ E) {w w' : World} {base L Gb K : Nat} {V : Nat → Value} {n : Nat → Nat} {Y : Nat → List Value} {k : Nat} {G : Nat → Value} {v v' : Value} {m p : Nat} {xs ys : List Value} (h : StG E RE sz mk w base L Gb K V n Y k G) (hk : k < K)
    (hv : Gv K V n k G v m) (ho : w.ownsRow base E sz v m xs) (hm : n k ≤ m) (hx : xs.take (n k * sz) = mksG mk k (n k)) (ho' : w'.ownsRow base E sz v' (m + p) (xs ++ ys))
    (hf : (∃ g c, v = .slice (some ⟨g, 0, none⟩) m c ∧ v' = .slice (some ⟨g, 0, none⟩) (m + p) c ∧ w.grownBy w' (some g)) ∨ (v'.ownBlock = some w.heap.size ∧ w.grownBy w' none)) :
    StG E RE sz mk w' base L Gb K V n Y k G ∧ Gv K V n k G v' (m + p) := by
  obtain ⟨h1, h2, h3, h4, h5, h6⟩ := h
  obtain ⟨g1, g2, g3⟩ := hv
  rcases hf with ⟨g, c, rfl, rfl, hg⟩ | ⟨hb, hg⟩
  · have eb : ∀ u, Ap (.slice (some ⟨g, 0, none⟩) m c) u → Ap (.slice (some ⟨g, 0, none⟩) (m + p) c) u := fun u hu => hu.block rfl
    have ev : ∀ u, Ap (.slice (some ⟨g, 0, none⟩) m c) u → ∀ b, some g = some b → u.ownBlock ≠ some b := fun u hu b hb => by
      injection hb with hb
      subst hb
      exact hu g rfl
    refine ⟨⟨fun j hj => ?_, h2.kept hg (fun e => h2.ne hne ho e), h3.kept hg (fun e => h3.ne hne ho e), fun j hj => own_keptG (h4 j hj) hg (ev _ (g2 j hj)), h5, h6⟩, fun j hj hjk => eb _ (g1 j hj hjk), fun j hj => eb _ (g2 j hj), ?_⟩
    · by_cases hjk : j = k
      · subst hjk
        rcases g3 with g3 | ⟨b, c', e1, e2⟩
        · exact own_keptG (h1 j hj) hg (ev _ g3)
        · injection e2 with a1 a2 a3
          injection a1 with a1
          injection a1 with a1
          subst a1 a3
          rw [e1]
          have h7 := own_subG ho' (n j) (by omega)
          have e3 : (xs ++ ys).take (n j * sz) = mksG mk j (n j) := by
            rw [List.take_append_of_le_length (by rw [ho.1]; exact Nat.mul_le_mul_right _ hm), hx]
          rwa [e3] at h7
      · exact own_keptG (h1 j hj) hg (ev _ (g1 j hj hjk))
    · rcases g3 with g3 | ⟨b, c', e1, e2⟩
      · exact .inl (eb _ g3)
      · injection e2 with a1 a2 a3
        injection a1 with a1
        injection a1 with a1
        subst a1 a3
        exact .inr ⟨g, c, e1, rfl⟩
  · have ex : ∀ b, (none : Option Nat) = some b → ∀ u : Value, u.ownBlock ≠ some b := fun b hb => by cases hb
    exact ⟨⟨fun j hj => own_keptG (h1 j hj) hg (fun b hb => ex b hb _), h2.kept hg (fun e => by cases e), h3.kept hg (fun e => by cases e), fun j hj => own_keptG (h4 j hj) hg (fun b hb => ex b hb _), h5, h6⟩,
      fun j hj _ => Ap.freshG hb (h1 j hj), fun j hj => Ap.freshG hb (h4 j hj), .inl (Ap.freshG hb (h1 k hk))⟩
theorem StG.lay (hne : RE ≠ E) {w : World} {base L Gb K : Nat} {V : Nat → Value} {n : Nat → Nat} {Y : Nat → List Value} {k : Nat} {G : Nat → Value} {v : Value} (h : StG E RE sz mk w base L Gb K V n Y k G) (hk : k < K)
    (hv : Gv K V n k G v (n k + 64)) (ho : w.ownsRow base E sz v (n k + 64) (Y k)) (hL : L ≠ Gb) : StG E RE sz mk (w.setCell ⟨Gb, k, none⟩ v) base L Gb K V n Y (k + 1) (updV G k v) := by
  obtain ⟨h1, h2, h3, h4, h5, h6⟩ := h
  obtain ⟨g1, g2, g3⟩ := hv
  have hg := grown_put w ⟨Gb, k, none⟩ v
  have hn : ∀ (u : Value) (m : Nat) (xs : List Value), w.ownsRow base E sz u m xs → ∀ b, some Gb = some b → u.ownBlock ≠ some b := fun u m xs hu b hb => by
    injection hb with hb
    subst hb
    exact h3.ne hne hu
  refine ⟨fun j hj => own_keptG (h1 j hj) hg (hn _ _ _ (h1 j hj)), h2.kept hg (fun e => by injection e with e; exact hL e.symm), h3.put k v hk, fun j hj => ?_, fun i j hi hj hij => ?_, fun i j hi hj hij => ?_⟩
  · by_cases hjk : j = k
    · subst hjk
      rw [updV_same]
      exact own_keptG ho hg (hn _ _ _ ho)
    · rw [updV_else G k v hjk]
      exact own_keptG (h4 j (by omega)) hg (hn _ _ _ (h4 j (by omega)))
  · by_cases hjk : j = k
    · subst hjk
      rw [updV_same]
      exact (g1 i hi hij).symm
    · rw [updV_else G k v hjk]
      exact h5 i j hi (by omega) hij
  · by_cases hik : i = k
    · subst hik
      rw [updV_same, updV_else G i v (fun e => hij e.symm)]
      exact g2 j (by omega)
    · rw [updV_else G k v hik]
      by_cases hjk : j = k
      · subst hjk
        rw [updV_same]
        exact (g2 i (by omega)).symm
      · rw [updV_else G k v hjk]
        exact h6 i j (by omega) (by omega) hij
/-- The row k itself. -/
theorem GvG.start {w : World} {base L Gb K : Nat} {V : Nat → Value} {n : Nat → Nat} {Y : Nat → List Value} {k : Nat} {G : Nat → Value} (h : StG E RE sz mk w base L Gb K V n Y k G) (hk : k < K) (hA : Apt K V V) : Gv K V n k G (V k) (n k) := by
  obtain ⟨h1, h2, h3, h4, h5, h6⟩ := h
  refine ⟨fun j hj hjk => hA k j hk hj (fun e => hjk e.symm), fun j hj => h5 k j hk hj (by omega), ?_⟩
  rcases (h1 k hk).2 with ⟨e, _⟩ | ⟨g, cap, cur, e, _⟩
  · left
    rw [e]
    intro b hb
    cases hb
  · exact .inr ⟨g, cap, e, e⟩
end
section
variable (E RE : TypeId) (sz : Nat) (mk : Nat → Nat → List Value)
def FGG (w0 : World) (base L Gb K : Nat) (V : Nat → Value) (n : Nat → Nat) (Y : Nat → List Value) (gk : Nat) (kv : Value) (wr : World) : Prop :=
  ∃ (k : Nat) (G : Nat → Value), k + gk = K ∧ kv = .int .i64 (k : Int) ∧ StG E RE sz mk wr base L Gb K V n Y k G ∧ BelG E base w0 wr
def Pf4G (w0 : World) (base L Gb K : Nat) (V : Nat → Value) (n : Nat → Nat) (Y : Nat → List Value) (k : Nat) (G : Nat → Value) (gk : Nat) (gv iv : Value) (wr : World) : Prop :=
  ∃ i : Nat, i + gk = 64 ∧ iv = .int .i64 (i : Int) ∧ StG E RE sz mk wr base L Gb K V n Y k G ∧ Gv K V n k G gv (n k + i) ∧ wr.ownsRow base E sz gv (n k + i) (mksG mk k (n k + i)) ∧ BelG E base w0 wr
def Pf7G (wr : World) (M q : Nat) (gk : Nat) (iv : Value) (w' : World) : Prop :=
  ∃ (i : Nat) (z : List Value), i + gk = 64 ∧ iv = .int .i64 (i : Int) ∧ w'.ownsRow M E sz (.slice (some ⟨M, 0, none⟩) 64 64) 64 z ∧ z.take (i * sz) = mksG mk q i ∧ Below M wr w'
def Pf1G (w0 : World) (base L K : Nat) (V : Nat → Value) (n : Nat → Nat) (gk : Nat) (kv : Value) (wr : World) : Prop :=
  ∃ (k : Nat) (X : Nat → List Value), k + gk = K ∧ kv = .int .i64 (k : Int) ∧ FamG E sz wr base K V n X ∧ (∀ j, j < k → X j = mksG mk j (n j)) ∧ LAtG RE wr L K V ∧ BelG E base w0 wr
def Pf2G (w0 : World) (base L K : Nat) (V : Nat → Value) (n : Nat → Nat) (k : Nat) (gk : Nat) (iv : Value) (wr : World) : Prop :=
  ∃ (i : Nat) (X : Nat → List Value), i + gk = n k ∧ iv = .int .i64 (i : Int) ∧ FamG E sz wr base K V n X ∧ (∀ j, j < k → X j = mksG mk j (n j)) ∧ (X k).take (i * sz) = mksG mk k i ∧ LAtG RE wr L K V ∧ BelG E base w0 wr
end
/-- What only looks, and makes memory of its own. -/
def ROG (K : Nat) (w3 : World) (gk : Nat) (kv : Value) (wr : World) : Prop := ∃ k : Nat, k + gk = K ∧ kv = .int .i64 (k : Int) ∧ Below w3.heap.size w3 wr
end Go.Proofs.YtfehgpjnlkgekaaGreatDoor
