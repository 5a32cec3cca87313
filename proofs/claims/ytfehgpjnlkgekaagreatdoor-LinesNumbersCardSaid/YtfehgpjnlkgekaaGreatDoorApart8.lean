/-
  peatbankkit's bags: rows of bytes that lie apart are found so.
-/
import Derived.Test.YtfehgpjnlkgekaaGreatDoorKitLent
import Derived.Test.YtfehgpjnlkgekaaGreatDoorPairs
namespace Go.Proofs.YtfehgpjnlkgekaaGreatDoor
open Go.RowKit
set_option linter.unusedVariables false

theorem infoRow8 : (Tryz.prog.info? 24).map (fun i => (i.zero, i.size, i.bytes)) = some (some (.slice none 0 0), 1, 24) := by kernel_rfl
/-- Nothing of v's block is u's. -/
def Ap (v u : Value) : Prop := ∀ b, v.ownBlock = some b → u.ownBlock ≠ some b
theorem own_kept {w w' : World} {base n : Nat} {e : TypeId} {v : Value} {xs : List Value} {r : Option Nat} (h : w.ownsRow base e 1 v n xs) (hg : w.grownBy w' r) (ha : ∀ b, r = some b → v.ownBlock ≠ some b) : w'.ownsRow base e 1 v n xs :=
  h.kept hg (by
    cases r with
    | none => cases hv : v.ownBlock <;> simp
    | some b => exact .inr (ha b rfl))
theorem own_sub {w : World} {base g n c : Nat} {e : TypeId} {xs : List Value} (h : w.ownsRow base e 1 (.slice (some ⟨g, 0, none⟩) n c) n xs) (m : Nat) (hm : m ≤ n) : w.ownsRow base e 1 (.slice (some ⟨g, 0, none⟩) m c) m (xs.take m) := by
  rcases h.2 with ⟨h0, _⟩ | ⟨g', cap, cur, hv, hb, hg, hnc, hcm, hcs, ht⟩
  · cases h0
  · injection hv with a1 a2 a3
    injection a1 with a1
    injection a1 with a1
    subst a1 a3
    refine ⟨by rw [List.length_take, h.1]; omega, .inr ⟨g, c, cur, rfl, hb, hg, by omega, hcm, hcs, ?_⟩⟩
    rw [← ht, List.take_take]
    congr 1
    omega
section
variable {w : World} {ops : Array Oper} {rest : List Oper} {o : Oper} {a : Act} {Q : Exit → Act → World → Prop}
/-- append, and where the row lies then. -/
theorem app_fine {P : Program} (hgd : o.guard = none) (s x : Operand) (t : TypeId) (ho : o.op = .call { callee := .builtin .append, args := #[s, x], argTypes := #[t, t] })
    (base : Nat) (e : TypeId) (z : Value) (bytes : Nat) (ht : P.underlying t = some (.slice e)) (hi : (P.info? e).map (fun i => (i.zero, i.size, i.bytes)) = some (some z, 1, bytes)) (hzs : z.cells.size = 1)
    (v : Value) (n : Nat) (xs : List Value) (hs : a.eval s = v) (hown : w.ownsRow base e 1 v n xs) (u : Value) (m : Nat) (ys : List Value) (hx : a.eval x = u) (hsrc : Src w 1 u m ys) (h1 : ∀ y ∈ ys, y.oneCell' = true) (hm : 0 < m)
    (h63 : n + m ≤ 35184372088832) (hbytes : (n + m) * bytes ≤ 140737488355328) (hbase : base ≤ w.heap.size)
    (h : ∀ v' w1, w1.ownsRow base e 1 v' (n + m) (xs ++ ys) → ((∃ g c, v = .slice (some ⟨g, 0, none⟩) n c ∧ v' = .slice (some ⟨g, 0, none⟩) (n + m) c ∧ w.grownBy w1 (some g)) ∨ (v'.ownBlock = some w.heap.size ∧ w.grownBy w1 none)) → wpList P ops Q rest (a.put o.dst v') w1) : wpList P ops Q (o :: rest) a w := by
  obtain ⟨i0, hi', hz0, hz1, hz2⟩ := info_parts hi
  obtain ⟨A, c, rfl, hl, hc⟩ := hsrc
  obtain ⟨b, off, rfl, hlt, hcell⟩ := hc hm
  have hnews : ∀ j y, ys[j]? = some y → w.cell? ((⟨b, off, none⟩ : Addr).add j) = some y := fun j y hy => by rw [Addr.add_mid]; exact hcell j y hy
  have hmx : n + m ≤ maxLen := by unfold maxLen; omega
  refine wpList_plain hgd fun K hK => ?_
  obtain ⟨v', w', hr, h2, h3, h4, h5⟩ := run_append_own_at (P := P) w base t o.type e i0 z 1 bytes ht hi' hz0 hz1 hz2 hzs (by omega) v n xs hown ⟨b, off, none⟩ m c ys hl hnews h1 hmx hbytes hbase
  have fine : (∃ g c, v = .slice (some ⟨g, 0, none⟩) n c ∧ v' = .slice (some ⟨g, 0, none⟩) (n + m) c ∧ w.grownBy w' (some g)) ∨ (v'.ownBlock = some w.heap.size ∧ w.grownBy w' none) := by
    rcases hown.2 with ⟨rfl, rfl⟩ | ⟨g, cap, cur, rfl, hb, hg, hnc, hcm, hcs, htk⟩
    · have hr2 := run_append_nil (P := P) w t o.type e i0 z ht hi' hz0 ⟨b, off, none⟩ m c ys (by rw [hz1]; exact hl) hnews hm (by omega) (by rw [hz2]; rw [Nat.zero_add] at hbytes; omega)
      rw [hr] at hr2
      injection hr2 with e1 e2
      subst e1 e2
      exact .inr ⟨rfl, ⟨rfl, rfl, rfl, by simp, fun k hk _ => Below.heap_alloc w.drew _ k hk⟩⟩
    · by_cases hroom : n + m ≤ cap
      · obtain ⟨w2, hr2, r1, r2⟩ := run_append_fits (P := P) w base t o.type e i0 1 ht hi' hz1 g n cap xs hown ⟨b, off, none⟩ m c ys hl hnews h1 hroom
        rw [hr] at hr2
        injection hr2 with e1 e2
        subst e1 e2
        exact .inl ⟨g, cap, rfl, rfl, r2⟩
      · have hr2 := run_append_grow (P := P) w t o.type e i0 z ht hi' hz0 ⟨g, 0, none⟩ n cap xs (by rw [hz1]; exact hown.1) (hown.cells (g := g) rfl) ⟨b, off, none⟩ m c ys (by rw [hz1]; exact hl) hnews (by omega) (by omega) (growslice_fits (by omega) (by rw [hz2]; exact hbytes))
        rw [hr] at hr2
        injection hr2 with e1 e2
        subst e1 e2
        exact .inr ⟨rfl, ⟨rfl, rfl, rfl, by simp, fun k hk _ => Below.heap_alloc w.drew _ k hk⟩⟩
  unfold Oper.wp execOp
  simp only [ho, resolve, invoke, builtin, Sem.run_bind, Sem.run_pure, Result.andThen_ok, List.map_toArray, List.map_cons, List.map_nil, hs, hx, hr]
  exact hK _ _ (h v' w' h2 fine)
end
def mks (k m : Nat) : List Int := (List.range m).map fun i : Nat => mb (k : Int) (i : Int)
theorem mks_len (k m : Nat) : (mks k m).length = m := by simp [mks]
theorem mks_succ (k m : Nat) : mks k (m + 1) = mks k m ++ [mb (k : Int) (m : Int)] := by simp [mks, List.range_succ]
theorem mks_take (k m i : Nat) (h : i ≤ m) : (mks k m).take i = mks k i := by
  simp [mks, ← List.map_take, List.take_range, Nat.min_eq_left h]
theorem mks_get (k m i : Nat) (h : i < m) : (mks k m)[i]? = some (mb (k : Int) (i : Int)) := by simp [mks, h]
/-- Rows of bytes of one's own. -/
def Fam (w : World) (base K : Nat) (V : Nat → Value) (n : Nat → Nat) (X : Nat → List Int) : Prop := ∀ k, k < K → w.ownsRow base 5 1 (V k) (n k) ((X k).map (Value.int .u8))
def Apt (K : Nat) (V U : Nat → Value) : Prop := ∀ i j, i < K → j < K → i ≠ j → Ap (V i) (U j)
/-- The list of them. -/
def LAt (w : World) (L K : Nat) (V : Nat → Value) : Prop := ∃ cs, Blk w L 24 cs ∧ ∀ k, k < K → cs[k]? = some (V k)
theorem Fam.kept {w w' : World} {base K : Nat} {V : Nat → Value} {n : Nat → Nat} {X : Nat → List Int} {r : Option Nat} (h : Fam w base K V n X) (hg : w.grownBy w' r) (ha : ∀ b, r = some b → ∀ k, k < K → (V k).ownBlock ≠ some b) : Fam w' base K V n X :=
  fun k hk => own_kept (h k hk) hg (fun b hb => ha b hb k hk)
theorem Fam.below {w w' : World} {base K : Nat} {V : Nat → Value} {n : Nat → Nat} {X : Nat → List Int} (h : Fam w base K V n X) (hb : Below w.heap.size w w') : Fam w' base K V n X := fun k hk => own_below (h k hk) hb
theorem LAt.cell {w : World} {L K : Nat} {V : Nat → Value} (h : LAt w L K V) {k : Nat} (hk : k < K) : w.cell? ⟨L, k, none⟩ = some (V k) := by
  obtain ⟨cs, h1, h2⟩ := h
  exact h1.cell (h2 k hk)
theorem LAt.free {w : World} {L K : Nat} {V : Nat → Value} (h : LAt w L K V) (k : Nat) : w.frozen? ⟨L, k, none⟩ = false := by
  obtain ⟨cs, h1, h2⟩ := h
  exact h1.free k
theorem LAt.kept {w w' : World} {L K : Nat} {V : Nat → Value} {r : Option Nat} (h : LAt w L K V) (hg : w.grownBy w' r) (hr : r ≠ some L) : LAt w' L K V := by
  obtain ⟨cs, h1, h2⟩ := h
  exact ⟨cs, h1.grown hg (fun e => hr e.symm), h2⟩
theorem LAt.below {w w' : World} {L K : Nat} {V : Nat → Value} (h : LAt w L K V) (hb : Below w.heap.size w w') : LAt w' L K V := by
  obtain ⟨cs, h1, h2⟩ := h
  exact ⟨cs, h1.below hb h1.lt, h2⟩
theorem LAt.lt {w : World} {L K : Nat} {V : Nat → Value} (h : LAt w L K V) : L < w.heap.size := by
  obtain ⟨cs, h1, h2⟩ := h
  exact h1.lt
def updV {α : Type} (f : Nat → α) (k : Nat) (v : α) : Nat → α := fun j => if j = k then v else f j
theorem updV_same {α : Type} (f : Nat → α) (k : Nat) (v : α) : updV f k v k = v := if_pos rfl
theorem updV_else {α : Type} (f : Nat → α) (k : Nat) (v : α) {j : Nat} (h : j ≠ k) : updV f k v j = f j := if_neg h
theorem LAt.put {w : World} {L K : Nat} {V : Nat → Value} (h : LAt w L K V) (k : Nat) (v : Value) (hk : k < K) : LAt (w.setCell ⟨L, k, none⟩ v) L K (updV V k v) := by
  obtain ⟨cs, h1, h2⟩ := h
  refine ⟨_, h1.put k v, fun j hj => ?_⟩
  by_cases hjk : j = k
  · subst hjk
    have := h2 j hj
    have hlt : j < cs.size := by
      rcases Nat.lt_or_ge j cs.size with h | h
      · exact h
      · rw [Array.getElem?_eq_none h] at this; cases this
    rw [updV_same, Array.getElem?_setIfInBounds_self_of_lt hlt]
  · rw [updV_else _ _ _ hjk, Array.getElem?_setIfInBounds_ne (fun e => hjk e.symm)]
    exact h2 j hj
/-- A row is no list of rows. -/
theorem LAt.ne {w : World} {L K base n : Nat} {V : Nat → Value} {v : Value} {xs : List Value} (h : LAt w L K V) (ho : w.ownsRow base 5 1 v n xs) : v.ownBlock ≠ some L := by
  obtain ⟨cs, h1, h2⟩ := h
  intro hv
  rcases ho.2 with ⟨rfl, _⟩ | ⟨g, cap, cur, rfl, a1, a2, _⟩
  · cases hv
  · injection hv with hv
    subst hv
    have h3 : Blk w g 5 cur := a2
    unfold Blk at h1 h3
    rw [h1] at h3
    injection h3 with h3
    injection h3 with _ h3
    exact absurd h3 (by decide)
/-- One cell of one row turns. -/
theorem Fam.put {w : World} {base K : Nat} {V : Nat → Value} {n : Nat → Nat} {X : Nat → List Int} (h : Fam w base K V n X) (hA : Apt K V V) {k g c : Nat} (hk : k < K) (hV : V k = .slice (some ⟨g, 0, none⟩) (n k) c) (i : Nat) (x : Int) :
    Fam (w.setCell ⟨g, i, none⟩ (.int .u8 x)) base K V n (updV X k ((X k).set i x)) := fun j hj => by
  by_cases hjk : j = k
  · subst hjk
    rw [updV_same, List.map_set]
    have h1 := h j hj
    rw [hV] at h1 ⊢
    exact (h1.stored i (.int .u8 x)).1
  · rw [updV_else _ _ _ hjk]
    exact own_kept (h j hj) (grown_put w ⟨g, i, none⟩ _) (fun b hb => by
      injection hb with hb
      subst hb
      exact hA k j hk hj (fun e => hjk e.symm) _ (by rw [hV]; rfl))

theorem mk_rows {w : World} {ops : Array Oper} {rest : List Oper} {o : Oper} {a : Act} {Q : Exit → Act → World → Prop} (hg : o.guard = none) (l c : Operand) (hop : o.op = Op.makeSlice 74 l c) (n : Nat) (L C : Int) (hl : a.eval l = .int .i64 L) (hc : a.eval c = .int .i64 C) (hL : L = (n : Int)) (hC : C = (n : Int)) (hn : n ≤ 1000)
    (hK : ∀ w', LAt w' w.heap.size n (fun _ => .slice none 0 0) → w.grownBy w' none → wpList Tryz.prog ops Q rest (a.put o.dst (.slice (some ⟨w.heap.size, 0, none⟩) n n)) w') : wpList Tryz.prog ops Q (o :: rest) a w := by
  obtain ⟨i0, hi, hz0, hz1, hz2⟩ := info_parts infoRow8
  refine wpList_make_full w hg l c _ hop 0 24 i0 _ 1 Tryz.underlying74 hi hz0 hz1 .i64 .i64 L C n hl hc hL hC (by rw [hz2]; omega) (by unfold maxLen; omega) (Nat.zero_le _) (fun w' h1 h2 => hK w' ?_ h2)
  have e : (madeCells (Value.slice none 0 0).cells (n * 1)).toList = List.replicate n (.slice none 0 0) := by rw [Nat.mul_one]; exact toList_madeCells_one _ _
  rw [e] at h1
  rcases h1.2 with ⟨h0, _⟩ | ⟨g', cap, cur, hv, hb, hg, hnc, hcm, hcs, ht⟩
  · cases h0
  · injection hv with a1 a2 a3
    injection a1 with a1
    injection a1 with a1
    subst a1
    refine ⟨cur, hg, fun k hk => ?_⟩
    have h3 : (cur.toList.take (n * 1))[k]? = (List.replicate n (Value.slice none 0 0))[k]? := by rw [ht]
    rw [List.getElem?_take_of_lt (by omega), List.getElem?_replicate, if_pos hk] at h3
    simpa using h3
theorem row_ne8 {w : World} {s : Nat} {t e : TypeId} {cs : Array Value} {base n : Nat} {v : Value} {xs : List Value} (hb : Blk w s t cs) (h : w.ownsRow base e 1 v n xs) (ht : t ≠ e) : v.ownBlock ≠ some s := by
  intro hv
  rcases h.2 with ⟨rfl, _⟩ | ⟨g, cap, cur, rfl, a1, a2, _⟩
  · cases hv
  · injection hv with hv
    subst hv
    have h3 : Blk w g e cur := a2
    unfold Blk at hb h3
    rw [hb] at h3
    injection h3 with h3
    injection h3 with _ h3
    exact ht h3
/-- What is below stays, and whatever is no row of bytes. -/
def Bel (base : Nat) (w w' : World) : Prop := Below base w w' ∧ base ≤ w.heap.size ∧ ∀ g t cs, Blk w g t cs → t ≠ 5 → Blk w' g t cs
theorem Bel.refl {base : Nat} {w : World} (hb : base ≤ w.heap.size) : Bel base w w := ⟨Below.refl _ _, hb, fun _ _ _ h _ => h⟩
theorem Bel.le {base : Nat} {w w' : World} (h : Bel base w w') : base ≤ w'.heap.size := Nat.le_trans h.2.1 h.1.size
theorem Bel.below {base : Nat} {w w1 w2 : World} (h : Bel base w w1) (hb : Below w1.heap.size w1 w2) : Bel base w w2 :=
  ⟨h.1.trans (hb.mono h.le), h.2.1, fun g t cs hg ht => (h.2.2 g t cs hg ht).below hb (h.2.2 g t cs hg ht).lt⟩
theorem Bel.put8 {base n : Nat} {w w1 : World} {v : Value} {xs : List Value} (h : Bel base w w1) (ho : w1.ownsRow base 5 1 v n xs) {g : Nat} (hv : v.ownBlock = some g) (i : Nat) (u : Value) : Bel base w (w1.setCell ⟨g, i, none⟩ u) := by
  refine ⟨⟨h.1.os, h.1.tape, h.1.output, by simpa using h.1.size, fun k hk => (Below.heap_setCell w1 ⟨g, i, none⟩ u k (fun e => by have := (ho.lt g hv).1; simp only at e; omega)).trans (h.1.block k hk)⟩, h.2.1, fun g' t cs hg ht => ?_⟩
  refine (h.2.2 g' t cs hg ht).else_ ?_ u
  rintro rfl
  exact row_ne8 (h.2.2 _ t cs hg ht) ho ht hv
theorem Bel.putNew {base : Nat} {w w1 : World} (h : Bel base w w1) {g : Nat} (hg : w.heap.size ≤ g) (i : Nat) (u : Value) : Bel base w (w1.setCell ⟨g, i, none⟩ u) := by
  refine ⟨⟨h.1.os, h.1.tape, h.1.output, by simpa using h.1.size, fun k hk => (Below.heap_setCell w1 ⟨g, i, none⟩ u k (fun e => by have := h.2.1; simp only at e; omega)).trans (h.1.block k hk)⟩, h.2.1, fun g' t cs hg' ht => ?_⟩
  refine (h.2.2 g' t cs hg' ht).else_ ?_ u
  have := hg'.lt
  intro e
  simp only at e
  omega
theorem Bel.none {base : Nat} {w w1 w2 : World} (h : Bel base w w1) (hg : w1.grownBy w2 none) : Bel base w w2 := h.below (bl_n (Below.refl _ _) hg)
theorem Bel.app {base m p : Nat} {w w1 w2 : World} {v v' : Value} {xs : List Value} (h : Bel base w w1) (ho : w1.ownsRow base 5 1 v m xs)
    (hf : (∃ g c, v = .slice (some ⟨g, 0, Option.none⟩) m c ∧ v' = .slice (some ⟨g, 0, Option.none⟩) (m + p) c ∧ w1.grownBy w2 (some g)) ∨ (v'.ownBlock = some w1.heap.size ∧ w1.grownBy w2 Option.none)) : Bel base w w2 := by
  rcases hf with ⟨g, c, e1, _, hg⟩ | ⟨_, hg⟩
  · have hv : v.ownBlock = some g := by rw [e1]; rfl
    refine ⟨h.1.grown hg h.le (fun b hb => by injection hb with hb; subst hb; exact (ho.lt g hv).1), h.2.1, fun g' t cs hg' ht => ?_⟩
    refine (h.2.2 g' t cs hg' ht).grown hg (fun e => ?_)
    injection e with e
    subst e
    exact row_ne8 (h.2.2 _ t cs hg' ht) ho ht hv
  · exact h.none hg
def Pf1 (w0 : World) (base L K : Nat) (V : Nat → Value) (n : Nat → Nat) (gk : Nat) (kv : Value) (wr : World) : Prop :=
  ∃ (k : Nat) (X : Nat → List Int), k + gk = K ∧ kv = .int .i64 (k : Int) ∧ Fam wr base K V n X ∧ (∀ j, j < k → X j = mks j (n j)) ∧ LAt wr L K V ∧ Bel base w0 wr
def Pf2 (w0 : World) (base L K : Nat) (V : Nat → Value) (n : Nat → Nat) (k : Nat) (gk : Nat) (iv : Value) (wr : World) : Prop :=
  ∃ (i : Nat) (X : Nat → List Int), i + gk = n k ∧ iv = .int .i64 (i : Int) ∧ Fam wr base K V n X ∧ (∀ j, j < k → X j = mks j (n j)) ∧ (X k).take i = mks k i ∧ LAt wr L K V ∧ Bel base w0 wr
theorem below_put {B : Nat} {a w : World} (h : Below B a w) (p : Addr) (u : Value) (hp : B ≤ p.block) : Below B a (w.setCell p u) :=
  ⟨h.os, h.tape, h.output, by simpa using h.size, fun k hk => (Below.heap_setCell w p u k (fun e => by omega)).trans (h.block k hk)⟩

theorem Ap.symm {v u : Value} (h : Ap v u) : Ap u v := fun b hb hv => h b hv hb
theorem Ap.block {v v' u : Value} (h : Ap v u) (e : v'.ownBlock = v.ownBlock) : Ap v' u := fun b hb => h b (by rw [← e]; exact hb)
theorem Ap.fresh {w : World} {v u : Value} {base n : Nat} {e : TypeId} {xs : List Value} (hv : v.ownBlock = some w.heap.size) (ho : w.ownsRow base e 1 u n xs) : Ap v u := fun b hb hu => by
  rw [hv] at hb
  injection hb with hb
  have := (ho.lt b hu).2
  omega
def Apt2 (K k : Nat) (V G : Nat → Value) : Prop := ∀ i j, i < K → j < k → i ≠ j → Ap (V i) (G j)
/-- The rows, and those that have been grown out of the first k. -/
def St (w : World) (base L Gb K : Nat) (V : Nat → Value) (n : Nat → Nat) (Y : Nat → List Int) (k : Nat) (G : Nat → Value) : Prop :=
  Fam w base K V n (fun j => mks j (n j)) ∧ LAt w L K V ∧ LAt w Gb K G ∧ Fam w base k G (fun j => n j + 64) Y ∧ Apt2 K k V G ∧ Apt k G G
/-- A row that is grown out of the row k. -/
def Gv (K : Nat) (V : Nat → Value) (n : Nat → Nat) (k : Nat) (G : Nat → Value) (v : Value) (m : Nat) : Prop :=
  (∀ j, j < K → j ≠ k → Ap v (V j)) ∧ (∀ j, j < k → Ap v (G j)) ∧ (Ap v (V k) ∨ ∃ b c, V k = .slice (some ⟨b, 0, none⟩) (n k) c ∧ v = .slice (some ⟨b, 0, none⟩) m c)
theorem St.below {w w' : World} {base L Gb K : Nat} {V : Nat → Value} {n : Nat → Nat} {Y : Nat → List Int} {k : Nat} {G : Nat → Value} (h : St w base L Gb K V n Y k G) (hb : Below w.heap.size w w') : St w' base L Gb K V n Y k G :=
  ⟨h.1.below hb, h.2.1.below hb, h.2.2.1.below hb, h.2.2.2.1.below hb, h.2.2.2.2.1, h.2.2.2.2.2⟩
theorem St.app {w w' : World} {base L Gb K : Nat} {V : Nat → Value} {n : Nat → Nat} {Y : Nat → List Int} {k : Nat} {G : Nat → Value} {v v' : Value} {m p : Nat} {xs ys : List Int} (h : St w base L Gb K V n Y k G) (hk : k < K)
    (hv : Gv K V n k G v m) (ho : w.ownsRow base 5 1 v m (xs.map (Value.int .u8))) (hm : n k ≤ m) (hx : xs.take (n k) = mks k (n k)) (ho' : w'.ownsRow base 5 1 v' (m + p) ((xs ++ ys).map (Value.int .u8)))
    (hf : (∃ g c, v = .slice (some ⟨g, 0, none⟩) m c ∧ v' = .slice (some ⟨g, 0, none⟩) (m + p) c ∧ w.grownBy w' (some g)) ∨ (v'.ownBlock = some w.heap.size ∧ w.grownBy w' none)) :
    St w' base L Gb K V n Y k G ∧ Gv K V n k G v' (m + p) := by
  obtain ⟨h1, h2, h3, h4, h5, h6⟩ := h
  obtain ⟨g1, g2, g3⟩ := hv
  rcases hf with ⟨g, c, rfl, rfl, hg⟩ | ⟨hb, hg⟩
  · have eb : ∀ u, Ap (.slice (some ⟨g, 0, none⟩) m c) u → Ap (.slice (some ⟨g, 0, none⟩) (m + p) c) u := fun u hu => hu.block rfl
    have ev : ∀ u, Ap (.slice (some ⟨g, 0, none⟩) m c) u → ∀ b, some g = some b → u.ownBlock ≠ some b := fun u hu b hb => by
      injection hb with hb
      subst hb
      exact hu g rfl
    refine ⟨⟨fun j hj => ?_, h2.kept hg (fun e => h2.ne ho e), h3.kept hg (fun e => h3.ne ho e), fun j hj => own_kept (h4 j hj) hg (ev _ (g2 j hj)), h5, h6⟩, fun j hj hjk => eb _ (g1 j hj hjk), fun j hj => eb _ (g2 j hj), ?_⟩
    · by_cases hjk : j = k
      · subst hjk
        rcases g3 with g3 | ⟨b, c', e1, e2⟩
        · exact own_kept (h1 j hj) hg (ev _ g3)
        · injection e2 with a1 a2 a3
          injection a1 with a1
          injection a1 with a1
          subst a1 a3
          rw [e1]
          have h7 := own_sub ho' (n j) (by omega)
          have e3 : (List.map (Value.int .u8) (xs ++ ys)).take (n j) = (mks j (n j)).map (Value.int .u8) := by
            rw [← List.map_take, List.take_append_of_le_length (by have := ho.1; simp at this; omega), hx]
          rwa [e3] at h7
      · exact own_kept (h1 j hj) hg (ev _ (g1 j hj hjk))
    · rcases g3 with g3 | ⟨b, c', e1, e2⟩
      · exact .inl (eb _ g3)
      · injection e2 with a1 a2 a3
        injection a1 with a1
        injection a1 with a1
        subst a1 a3
        exact .inr ⟨g, c, e1, rfl⟩
  · have ex : ∀ b, (none : Option Nat) = some b → ∀ u : Value, u.ownBlock ≠ some b := fun b hb => by cases hb
    exact ⟨⟨fun j hj => own_kept (h1 j hj) hg (fun b hb => ex b hb _), h2.kept hg (fun e => by cases e), h3.kept hg (fun e => by cases e), fun j hj => own_kept (h4 j hj) hg (fun b hb => ex b hb _), h5, h6⟩,
      fun j hj _ => Ap.fresh hb (h1 j hj), fun j hj => Ap.fresh hb (h4 j hj), .inl (Ap.fresh hb (h1 k hk))⟩
theorem St.lay {w : World} {base L Gb K : Nat} {V : Nat → Value} {n : Nat → Nat} {Y : Nat → List Int} {k : Nat} {G : Nat → Value} {v : Value} (h : St w base L Gb K V n Y k G) (hk : k < K)
    (hv : Gv K V n k G v (n k + 64)) (ho : w.ownsRow base 5 1 v (n k + 64) ((Y k).map (Value.int .u8))) (hL : L ≠ Gb) : St (w.setCell ⟨Gb, k, none⟩ v) base L Gb K V n Y (k + 1) (updV G k v) := by
  obtain ⟨h1, h2, h3, h4, h5, h6⟩ := h
  obtain ⟨g1, g2, g3⟩ := hv
  have hg := grown_put w ⟨Gb, k, none⟩ v
  have hne : ∀ (u : Value) (m : Nat) (xs : List Value), w.ownsRow base 5 1 u m xs → ∀ b, some Gb = some b → u.ownBlock ≠ some b := fun u m xs hu b hb => by
    injection hb with hb
    subst hb
    exact h3.ne hu
  refine ⟨fun j hj => own_kept (h1 j hj) hg (hne _ _ _ (h1 j hj)), h2.kept hg (fun e => by injection e with e; exact hL e.symm), h3.put k v hk, fun j hj => ?_, fun i j hi hj hij => ?_, fun i j hi hj hij => ?_⟩
  · by_cases hjk : j = k
    · subst hjk
      rw [updV_same]
      exact own_kept ho hg (hne _ _ _ ho)
    · rw [updV_else G k v hjk]
      exact own_kept (h4 j (by omega)) hg (hne _ _ _ (h4 j (by omega)))
  · by_cases hjk : j = k
    · subst hjk
      rw [updV_same]
      exact (g1 i hi hij).symm
    · rw [updV_else G k v hjk]
      exact h5 i j hi (by omega) hij
  · by_cases hik : i = k
    · subst hik
      rw [updV_same, updV_else G i v (fun e => hij e.symm)]
      exact g2 j (by omega)
    · rw [updV_else G k v hik]
      by_cases hjk : j = k
      · subst hjk
        rw [updV_same]
        exact (g2 i (by omega)).symm
      · rw [updV_else G k v hjk]
        exact h6 i j (by omega) (by omega) hij
/-- The row k itself. -/
theorem Gv.start {w : World} {base L Gb K : Nat} {V : Nat → Value} {n : Nat → Nat} {Y : Nat → List Int} {k : Nat} {G : Nat → Value} (h : St w base L Gb K V n Y k G) (hk : k < K) (hA : Apt K V V) : Gv K V n k G (V k) (n k) := by
  obtain ⟨h1, h2, h3, h4, h5, h6⟩ := h
  refine ⟨fun j hj hjk => hA k j hk hj (fun e => hjk e.symm), fun j hj => h5 k j hk hj (by omega), ?_⟩
  rcases (h1 k hk).2 with ⟨e, _⟩ | ⟨g, cap, cur, e, _⟩
  · left
    rw [e]
    intro b hb
    cases hb
  · exact .inr ⟨g, cap, e, e⟩
def FG (w0 : World) (base L Gb K : Nat) (V : Nat → Value) (n : Nat → Nat) (Y : Nat → List Int) (gk : Nat) (kv : Value) (wr : World) : Prop :=
  ∃ (k : Nat) (G : Nat → Value), k + gk = K ∧ kv = .int .i64 (k : Int) ∧ St wr base L Gb K V n Y k G ∧ Bel base w0 wr
def Pf4 (w0 : World) (base L Gb K : Nat) (V : Nat → Value) (n : Nat → Nat) (Y : Nat → List Int) (k : Nat) (G : Nat → Value) (gk : Nat) (gv iv : Value) (wr : World) : Prop :=
  ∃ i : Nat, i + gk = 64 ∧ iv = .int .i64 (i : Int) ∧ St wr base L Gb K V n Y k G ∧ Gv K V n k G gv (n k + i) ∧ wr.ownsRow base 5 1 gv (n k + i) ((mks k (n k + i)).map (Value.int .u8)) ∧ Bel base w0 wr
def Pf7 (wr : World) (M q : Nat) (gk : Nat) (iv : Value) (w' : World) : Prop :=
  ∃ (i : Nat) (z : List Int), i + gk = 64 ∧ iv = .int .i64 (i : Int) ∧ w'.ownsRow M 5 1 (.slice (some ⟨M, 0, none⟩) 64 64) 64 (z.map (Value.int .u8)) ∧ z.take i = mks q i ∧ Below M wr w'
def RO (K : Nat) (w3 : World) (gk : Nat) (kv : Value) (wr : World) : Prop := ∃ (k d : Nat), k + gk = K ∧ kv = .int .i64 (k : Int) ∧ wr = w3.drewN d
set_option maxHeartbeats 1600000 in
set_option maxRecDepth 100000 in
theorem flatBytes_any (w : World) (base L K c : Nat) (V : Nat → Value) (n : Nat → Nat) (X : Nat → List Int) (hL : LAt w L K V) (hF : Fam w base K V n X) (hA : Apt K V V) (hK : K ≤ 1000) (hn : ∀ k, k < K → n k ≤ 1000000000) (hb : base ≤ w.heap.size) :
    Calls Tryz.prog 51 #[.slice (some ⟨L, 0, none⟩) K c] w fun e w' => e = .returned (.bool true) ∧ Bel base w w' := by
  have HL := Lib.hid hL
  have HF := Lib.hid hF
  have HA := Lib.hid hA
  have HN := Lib.hid hn
  clear hL hF hA hn
  go_enter Tryz.func51, Tryz.ntmps51
  go_wp2
  go_loopg [3] K (Pf1 w base L K V n)
  case atStart => exact ⟨0, X, by omega, rfl, HF.out, fun j hj => absurd hj (by omega), HL.out, Bel.refl hb⟩
  case round =>
    clear HF HL
    obtain ⟨k, X1, hk, rfl, hf, hx, hl, hb⟩ := hrel
    have F := Lib.hid hf
    have X1D := Lib.hid hx
    have LL := Lib.hid hl
    have B := Lib.hid hb
    clear hf hx hl hb
    by_cases hkK : k < K
    · have hkI : (k : Int) < K := by omega
      have cL := LL.out.cell hkK
      obtain ⟨A, c, hV, _⟩ := own_slice (F.out k hkK)
      rw [hV] at cL
      have HV := Lib.hid hV
      obtain ⟨go, hgo⟩ : ∃ go, go = gk := ⟨_, rfl⟩
      rw [← hgo] at hk
      have hnk := HN.out k hkK
      clear hV
      go_wp2
      go_loopg [4] (n k) (Pf2 w base L K V n k)
      case atStart => exact ⟨0, X1, by omega, rfl, F.out, X1D.out, rfl, LL.out, B.out⟩
      case round =>
        clear F X1D LL B cL
        obtain ⟨i, X2, hi, rfl, hf, hx, ht, hl, hb⟩ := hrel
        have F := Lib.hid hf
        have X2D := Lib.hid hx
        have X2T := Lib.hid ht
        have LL := Lib.hid hl
        have B := Lib.hid hb
        have cL := LL.out.cell hkK
        rw [HV.out] at cL
        clear hf hx ht hl hb
        by_cases hik : i < n k
        · have hikI : (i : Int) < (n k : Int) := by omega
          have hok := F.out k hkK
          rw [HV.out] at hok
          obtain ⟨g, cc, hv, hbg, hlt2⟩ := hok.form (by omega)
          injection hv with hv hv2 hv3
          subst hv hv3
          have q2 := hok.frozenAt i
          have hlen : (X2 k).length = n k := by have := hok.1; simpa using this
          have q1 := hok.cellAt i (by omega)
          rw [List.getElem?_map, List.getElem?_eq_getElem (by omega)] at q1
          simp only [Option.map_some] at q1
          have HLen := Lib.hid hlen
          generalize (X2 k)[i]'(by omega) = x at *
          have MK := Lib.hid (fun wz => markByte_any k i wz (by have := hnk; omega) (by have := hnk; omega))
          obtain ⟨y, hy⟩ : ∃ y, y = mb (k : Int) (i : Int) := ⟨_, rfl⟩
          have HY := Lib.hid hy
          rw [← hy] at MK
          clear hy hok hlen
          go_wp2
          refine wp_region_qs (fun jj w' => w'.cell? ⟨L, k, none⟩ = some (.slice (some ⟨g, 0, none⟩) (n k) c)) [(0, some 1), (1, some 1), (2, some 1), (3, some 1), (4, some 1), (5, some 0), (6, some 0), (7, none), (8, some 1), (9, none)] (by kernel_rfl) (by kernel_rfl) (by kernel_rfl) (by kernel_rfl) (by kernel_rfl) (fun _ _ _ _ _ h => h) cL ?_
          simp only [List.map_cons, List.map_nil, List.getD_cons_succ, List.getD_cons_zero]
          (repeat (first | (refine qs_now (v := ?_) (by rfl) ?_ ?_; rotate_left 1; (· (intro w' hS; go_simp; (try (simp only [↓IntWalk.iteOmega]; go_simp)); (try simp (disch := omega) only [IntWalk.i64_in]); try with_reducible rfl)); simp only [Act.put, List.setIfInBounds_toArray, List.set_cons_zero, List.set_cons_succ]) | (refine qs_run (v := ?_) (by rfl) ?_ ?_; rotate_left 1; (· (intro j w' hS; go_simp; (try (simp only [↓IntWalk.iteOmega]; go_simp)); (try simp (disch := omega) only [IntWalk.i64_in]); try with_reducible rfl)); simp only [Act.put, List.setIfInBounds_toArray, List.set_cons_zero, List.set_cons_succ]) | (refine qs_skip (by rfl) ?_; simp only [Act.put, List.setIfInBounds_toArray, List.set_cons_zero, List.set_cons_succ])))
          refine qs_act ?_
          go_wp2_with fail
          refine (MK.out _).mono ?_
          rintro ev w2 ⟨rfl, rfl⟩
          go_wp2
          refine ⟨cL, ?_⟩
          (repeat (first | (refine qs_now (v := ?_) (by rfl) ?_ ?_; rotate_left 1; (· (intro w' hS; go_simp; (try (simp only [↓IntWalk.iteOmega]; go_simp)); (try simp (disch := omega) only [IntWalk.i64_in]); try with_reducible rfl)); simp only [Act.put, List.setIfInBounds_toArray, List.set_cons_zero, List.set_cons_succ]) | (refine qs_run (v := ?_) (by rfl) ?_ ?_; rotate_left 1; (· (intro j w' hS; go_simp; (try (simp only [↓IntWalk.iteOmega]; go_simp)); (try simp (disch := omega) only [IntWalk.i64_in]); try with_reducible rfl)); simp only [Act.put, List.setIfInBounds_toArray, List.set_cons_zero, List.set_cons_succ]) | (refine qs_skip (by rfl) ?_; simp only [Act.put, List.setIfInBounds_toArray, List.set_cons_zero, List.set_cons_succ])))
          refine qs_act ?_
          go_wp2
          have hcL2 : (wr.drew.setCell ⟨g, i, none⟩ (.int .u8 y)).cell? ⟨L, k, none⟩ = some (.slice (some ⟨g, 0, none⟩) (n k) c) := by
            have := ((LL.out.below (Below.refl _ _).drew).kept (grown_put wr.drew ⟨g, i, none⟩ (.int .u8 y)) (fun e => by
              injection e with e
              exact LL.out.ne (F.out k hkK) (by rw [HV.out, ← e]; rfl))).cell hkK
            rw [this, HV.out]
          refine ⟨hcL2, ?_⟩
          refine qs_nil ?_
          go_wp2
          go_roundg (gk - 1)
          case measure => omega
          case rel =>
            have FD := F.out.below ((Below.refl wr.heap.size wr).drew)
            refine ⟨i + 1, updV X2 k ((X2 k).set i y), by omega, by go_num, FD.put HA.out hkK HV.out i y, fun j hj => by rw [updV_else X2 k _ (show j ≠ k by omega)]; exact X2D.out j hj, ?_, ?_, ?_⟩
            · rw [updV_same, mks_succ, ← X2T.out, ← HY.out]
              have hl2 := HLen.out
              rw [List.take_add_one, List.getElem?_set_self (by omega), List.take_set_of_le (Nat.le_refl _)]
              rfl
            · exact (LL.out.below (Below.refl _ _).drew).kept (grown_put wr.drew ⟨g, i, none⟩ (.int .u8 y)) (fun e => by
                injection e with e
                exact LL.out.ne (F.out k hkK) (by rw [HV.out, ← e]; rfl))
            · exact (B.out.below (Below.refl _ _).drew).put8 (FD k hkK) (by rw [HV.out]; rfl) _ _
        · obtain rfl : i = n k := by omega
          have hX : X2 k = mks k (n k) := by
            have := X2T.out
            rwa [List.take_of_length_le (by have := (F.out k hkK).1; simp at this; omega)] at this
          have HX := Lib.hid hX
          clear hX
          go_wp2
          go_roundg (go - 1)
          case measure => omega
          case rel => exact ⟨k + 1, X2, by omega, by go_num, F.out, fun j hj => by
            rcases Nat.lt_or_ge j k with h | h
            · exact X2D.out j h
            · obtain rfl : j = k := by omega
              exact HX.out, LL.out, B.out⟩
    · obtain rfl : K = k := by omega
      have F0 := Lib.hid (show Fam wr base K V n (fun j => mks j (n j)) from fun j hj => by have := F.out j hj; rwa [X1D.out j hj] at this)
      clear F X1D
      go_wp2_with (refine mk_rows rfl (.tmp 41) (.tmp 41) rfl K _ _ rfl rfl rfl rfl hK ?_; intro w1 hl1 hg1; have G1 := Lib.hid hl1; have N1 := Lib.hid hg1; clear hl1 hg1)
      have HLG : L ≠ wr.heap.size := by have := LL.out.lt; omega
      have S1 := Lib.hid (show St w1 base L wr.heap.size K V n (fun j => mks j (n j + 64)) 0 (fun _ => .slice none 0 0) from
        ⟨F0.out.kept N1.out (fun b hb => by cases hb), LL.out.kept N1.out (fun e => by cases e), G1.out, fun j hj => absurd hj (by omega), fun i j hi hj => absurd hj (by omega), fun i j hi => absurd hi (by omega)⟩)
      have B1 := Lib.hid (B.out.none N1.out)
      obtain ⟨Gb, hGb⟩ : ∃ Gb, Gb = wr.heap.size := ⟨_, rfl⟩
      rw [← hGb] at S1 HLG ⊢
      have hGb2 : w.heap.size ≤ Gb := by have := B.out.1.size; omega
      clear F0 LL B G1 N1 hGb
      go_loopg [6] K (FG w base L Gb K V n (fun j => mks j (n j + 64)))
      case atStart => exact ⟨0, _, by omega, rfl, S1.out, B1.out⟩
      case round =>
        clear S1 B1
        obtain ⟨k, G, hk, rfl, hs, hb'⟩ := hrel
        have S := Lib.hid hs
        have B := Lib.hid hb'
        clear hs hb'
        by_cases hkK : k < K
        · have hkI : (k : Int) < K := by omega
          have cL := S.out.2.1.cell hkK
          obtain ⟨A, c, hV, _⟩ := own_slice (S.out.1 k hkK)
          rw [hV] at cL
          have HV := Lib.hid hV
          obtain ⟨go, hgo⟩ : ∃ go, go = gk := ⟨_, rfl⟩
          rw [← hgo] at hk
          have hnk := HN.out k hkK
          clear hV
          go_wp2
          go_loopg [7, 8] 64 (Pf4 w base L Gb K V n (fun j => mks j (n j + 64)) k G)
          case atStart =>
            have hst := Gv.start S.out hkK HA.out
            have ho := S.out.1 k hkK
            rw [HV.out] at hst ho
            exact ⟨0, by omega, rfl, S.out, hst, ho, B.out⟩
          case round =>
            clear S B cL
            obtain ⟨i, hi, rfl, hs, hgv, ho, hb'⟩ := hrel
            have S := Lib.hid hs
            have GV := Lib.hid hgv
            have O := Lib.hid ho
            have B := Lib.hid hb'
            have cL := S.out.2.1.cell hkK
            rw [HV.out] at cL
            clear hs hgv ho hb'
            by_cases hik : i < 64
            · have hikI : (i : Int) < 64 := by omega
              have hsum := Lib.hid (show (n k : Int) + (i : Int) = ((n k + i : Nat) : Int) by omega)
              have MK := Lib.hid (fun wz => markByte_any k ((n k + i : Nat) : Int) wz (by omega) (by omega))
              go_wp2_with (first
                | (go_at_call 87; rw [hsum.out]; refine (MK.out _).mono ?_; rintro ev w2 ⟨rfl, rfl⟩)
                | (refine app_fine rfl (.tmp 57) (.tmp 67) 24 rfl base 5 _ 1 Tryz.underlying24 infoByte rfl _ (n k + i) _ rfl (O.out.alloc _) _ 1 [Value.int .u8 (mb (k : Int) ((n k + i : Nat) : Int))] rfl (src8 _ _ _) (by simp [Value.oneCell']) (by omega) (by omega) (by omega) (by have := B.out.le; simp; omega) ?_; intro v2 w2 ho2 hf2; have O2 := Lib.hid ho2; have FN2 := Lib.hid hf2; clear ho2 hf2))
              have hst := St.app (S.out.below ((Below.refl _ _).alloc (Nat.le_refl _) _)) hkK GV.out (O.out.alloc _) (by omega) (mks_take _ _ _ (by omega)) (ys := [mb (k : Int) ((n k + i : Nat) : Int)]) (by simpa using O2.out) FN2.out
              have SS := Lib.hid hst
              have B2 := Lib.hid (Bel.app (B.out.below ((Below.refl _ _).alloc (Nat.le_refl _) _)) (O.out.alloc _) FN2.out)
              clear hst
              go_roundg (gk - 1)
              case measure => omega
              case rel =>
                refine ⟨i + 1, by omega, by go_num, SS.out.1, SS.out.2, ?_, B2.out⟩
                rw [show n k + (i + 1) = n k + i + 1 from rfl, mks_succ]
                simpa using O2.out
            · obtain rfl : i = 64 := by omega
              obtain ⟨A3, c3, hv3, _⟩ := own_slice O.out
              subst hv3
              have hG := S.out.2.2.1.cell hkK
              have fG := S.out.2.2.1.free k
              go_wp2
              go_roundg (go - 1)
              case measure => omega
              case rel =>
                exact ⟨k + 1, updV G k _, by omega, by go_num, S.out.lay hkK GV.out O.out HLG, B.out.putNew hGb2 _ _⟩
        · obtain rfl : K = k := by omega
          obtain ⟨w3, hw3⟩ : ∃ w3, w3 = wr := ⟨_, rfl⟩
          rw [← hw3] at S B ⊢
          clear hw3
          go_wp2
          go_loopg [9] K (RO K w3)
          case atStart => exact ⟨0, 0, by omega, rfl, rfl⟩
          case round =>
            obtain ⟨k, dd, hk, rfl, rfl⟩ := hrel
            by_cases hkK : k < K
            · have hkI : (k : Int) < K := by omega
              have cG0 := S.out.2.2.1.cell hkK
              obtain ⟨A, c, hGk, _⟩ := own_slice (S.out.2.2.2.1 k hkK)
              rw [hGk] at cG0
              have HGk := Lib.hid hGk
              have cG : (w3.drewN dd).cell? ⟨Gb, k, none⟩ = some (.slice A (n k + 64) c) := cG0
              obtain ⟨go, hgo⟩ : ∃ go, go = gk := ⟨_, rfl⟩
              rw [← hgo] at hk
              have hnk := HN.out k hkK
              clear hGk cG0
              go_wp2
              go_loopg [10] (n k + 64) (RO (n k + 64) w3)
              case atStart => exact ⟨0, dd, by omega, rfl, rfl⟩
              case round =>
                clear cG
                obtain ⟨i, de, hi, rfl, rfl⟩ := hrel
                have cG0 := S.out.2.2.1.cell hkK
                rw [HGk.out] at cG0
                have cG : (w3.drewN de).cell? ⟨Gb, k, none⟩ = some (.slice A (n k + 64) c) := cG0
                clear cG0
                by_cases hik : i < n k + 64
                · have hikI : (i : Int) < (n k : Int) + 64 := by omega
                  have hok := S.out.2.2.2.1 k hkK
                  rw [HGk.out] at hok
                  obtain ⟨g, cc, hv, hbg, hlt2⟩ := hok.form (show 0 < n k + 64 by omega)
                  injection hv with hv hv2 hv3
                  subst hv hv3
                  have q1 := hok.cellAt i (by omega)
                  rw [List.getElem?_map, mks_get k _ i hik] at q1
                  simp only [Option.map_some] at q1
                  have c1 : (w3.drewN de).cell? ⟨g, i, none⟩ = some (.int .u8 (mb (k : Int) (i : Int))) := q1
                  have cL0 := S.out.2.1.cell hkK
                  obtain ⟨A2, c2, hVk, _⟩ := own_slice (S.out.1 k hkK)
                  rw [hVk] at cL0
                  have cL : (w3.drewN de).cell? ⟨L, k, none⟩ = some (.slice A2 (n k) c2) := cL0
                  have HVk := Lib.hid hVk
                  have MK := Lib.hid (fun wz => markByte_any k i wz (by omega) (by omega))
                  have HMB := Lib.hid (show ∃ y, y = mb (k : Int) (i : Int) from ⟨_, rfl⟩)
                  clear hok q1 cL0 hVk
                  by_cases hin : i < n k
                  · have hinI : (i : Int) < (n k : Int) := by omega
                    have hok2 := S.out.1 k hkK
                    rw [HVk.out] at hok2
                    obtain ⟨g2, cc2, hv, _, _⟩ := hok2.form (by omega)
                    injection hv with hv hv2 hv3
                    subst hv hv3
                    have q2 := hok2.cellAt i (by omega)
                    rw [List.getElem?_map, mks_get k _ i hin] at q2
                    simp only [Option.map_some] at q2
                    have c3 : (w3.drewN de).cell? ⟨g2, i, none⟩ = some (.int .u8 (mb (k : Int) (i : Int))) := q2
                    clear hok2 q2
                    obtain ⟨y, hy⟩ := HMB.out
                    rw [← hy] at MK c1 c3
                    have dy : (y == y) = true := by simp
                    have din : decide ((i : Int) < (n k : Int)) = true := by simpa using hin
                    have din' : decide (i < n k) = true := by simpa using hin
                    clear HMB hy
                    go_wp2
                    refine wp_region_qs (fun jj w' => w'.cell? ⟨Gb, k, none⟩ = some (.slice (some ⟨g, 0, none⟩) (n k + 64) c) ∧ w'.cell? ⟨g, i, none⟩ = some (.int .u8 y) ∧ w'.cell? ⟨L, k, none⟩ = some (.slice (some ⟨g2, 0, none⟩) (n k) c2) ∧ w'.cell? ⟨g2, i, none⟩ = some (.int .u8 y)) [(0, some 2), (1, some 2), (2, some 2), (3, some 2), (4, some 2), (5, some 2), (6, some 2), (7, some 1), (8, some 1), (9, none), (10, some 2), (11, some 2), (12, some 2), (13, some 2), (14, some 2), (15, some 2), (16, some 2), (17, some 2), (18, some 2), (19, some 2), (20, some 1), (21, some 2), (22, some 2), (23, some 2), (24, some 2), (25, some 2), (26, some 2), (27, some 2), (28, some 1), (29, some 1), (30, none), (31, some 2), (32, some 2), (33, some 2), (34, some 2)] (by kernel_rfl) (by kernel_rfl) (by kernel_rfl) (by kernel_rfl) (by kernel_rfl) (fun _ _ _ _ _ h => h) ⟨cG, c1, cL, c3⟩ ?_
                    simp only [List.map_cons, List.map_nil, List.getD_cons_succ, List.getD_cons_zero]
                    (repeat (first | (refine qs_now (v := ?_) (by rfl) ?_ ?_; rotate_left 1; (· (intro w' hS; go_simp; (try (simp only [↓IntWalk.iteOmega]; go_simp)); (try simp (disch := omega) only [IntWalk.i64_in]); try with_reducible rfl)); simp only [Act.put, List.setIfInBounds_toArray, List.set_cons_zero, List.set_cons_succ]) | (refine qs_run (v := ?_) (by rfl) ?_ ?_; rotate_left 1; (· (intro j w' hS; go_simp; (try (simp only [↓IntWalk.iteOmega]; go_simp)); (try simp (disch := omega) only [IntWalk.i64_in]); try with_reducible rfl)); simp only [Act.put, List.setIfInBounds_toArray, List.set_cons_zero, List.set_cons_succ]) | (refine qs_mid (v := ?_) (by rfl) ?_ ?_; rotate_left 1; (· (intro j w' hj1 hj2 hS; go_simp; (try (simp only [↓IntWalk.iteOmega]; go_simp)); (try simp (disch := omega) only [IntWalk.i64_in]); try with_reducible rfl)); simp only [Act.put, List.setIfInBounds_toArray, List.set_cons_zero, List.set_cons_succ]) | (refine qs_skip (by rfl) ?_; simp only [Act.put, List.setIfInBounds_toArray, List.set_cons_zero, List.set_cons_succ])))
                    refine qs_act ?_
                    go_wp2_with fail
                    refine (MK.out _).mono ?_
                    rintro ev w2 ⟨rfl, rfl⟩
                    go_wp2
                    refine ⟨⟨cG, c1, cL, c3⟩, ?_⟩
                    (repeat (first | (refine qs_now (v := ?_) (by rfl) ?_ ?_; rotate_left 1; (· (intro w' hS; go_simp; (try (simp only [↓IntWalk.iteOmega]; go_simp)); (try simp (disch := omega) only [IntWalk.i64_in]); try with_reducible rfl)); simp only [Act.put, List.setIfInBounds_toArray, List.set_cons_zero, List.set_cons_succ]) | (refine qs_run (v := ?_) (by rfl) ?_ ?_; rotate_left 1; (· (intro j w' hS; go_simp; (try (simp only [↓IntWalk.iteOmega]; go_simp)); (try simp (disch := omega) only [IntWalk.i64_in]); try with_reducible rfl)); simp only [Act.put, List.setIfInBounds_toArray, List.set_cons_zero, List.set_cons_succ]) | (refine qs_mid (v := ?_) (by rfl) ?_ ?_; rotate_left 1; (· (intro j w' hj1 hj2 hS; go_simp; (try (simp only [↓IntWalk.iteOmega]; go_simp)); (try simp (disch := omega) only [IntWalk.i64_in]); try with_reducible rfl)); simp only [Act.put, List.setIfInBounds_toArray, List.set_cons_zero, List.set_cons_succ]) | (refine qs_skip (by rfl) ?_; simp only [Act.put, List.setIfInBounds_toArray, List.set_cons_zero, List.set_cons_succ])))
                    refine qs_act ?_
                    go_wp2_with fail
                    refine (MK.out _).mono ?_
                    rintro ev w2 ⟨rfl, rfl⟩
                    go_wp2
                    refine ⟨⟨cG, c1, cL, c3⟩, ?_⟩
                    (repeat (first | (refine qs_now (v := ?_) (by rfl) ?_ ?_; rotate_left 1; (· (intro w' hS; go_simp; (try (simp only [↓IntWalk.iteOmega]; go_simp)); (try simp (disch := omega) only [IntWalk.i64_in]); try with_reducible rfl)); simp only [Act.put, List.setIfInBounds_toArray, List.set_cons_zero, List.set_cons_succ]) | (refine qs_run (v := ?_) (by rfl) ?_ ?_; rotate_left 1; (· (intro j w' hS; go_simp; (try (simp only [↓IntWalk.iteOmega]; go_simp)); (try simp (disch := omega) only [IntWalk.i64_in]); try with_reducible rfl)); simp only [Act.put, List.setIfInBounds_toArray, List.set_cons_zero, List.set_cons_succ]) | (refine qs_mid (v := ?_) (by rfl) ?_ ?_; rotate_left 1; (· (intro j w' hj1 hj2 hS; go_simp; (try (simp only [↓IntWalk.iteOmega]; go_simp)); (try simp (disch := omega) only [IntWalk.i64_in]); try with_reducible rfl)); simp only [Act.put, List.setIfInBounds_toArray, List.set_cons_zero, List.set_cons_succ]) | (refine qs_skip (by rfl) ?_; simp only [Act.put, List.setIfInBounds_toArray, List.set_cons_zero, List.set_cons_succ])))
                    refine qs_nil ?_
                    go_wp2
                    go_roundg (gk - 1)
                    case measure => omega
                    case rel => exact ⟨i + 1, de + 1, by omega, by go_num, rfl⟩
                  · have hinI : ¬ (i : Int) < (n k : Int) := by omega
                    obtain ⟨y, hy⟩ := HMB.out
                    rw [← hy] at MK c1
                    have dy : (y == y) = true := by simp
                    have din : decide ((i : Int) < (n k : Int)) = false := by simpa using hin
                    have din' : decide (i < n k) = false := by simpa using hin
                    clear HMB hy
                    go_wp2
                    refine wp_region_qs (fun jj w' => w'.cell? ⟨Gb, k, none⟩ = some (.slice (some ⟨g, 0, none⟩) (n k + 64) c) ∧ w'.cell? ⟨g, i, none⟩ = some (.int .u8 y) ∧ w'.cell? ⟨L, k, none⟩ = some (.slice A2 (n k) c2)) [(0, some 2), (1, some 2), (2, some 2), (3, some 2), (4, some 2), (5, some 2), (6, some 2), (7, some 1), (8, some 1), (9, none), (10, some 2), (11, some 2), (12, some 2), (13, some 2), (14, some 2), (15, some 2), (16, some 2), (17, some 2), (18, some 2), (19, some 2), (20, some 1), (21, some 2), (22, some 2), (23, some 2), (24, some 2), (25, some 2), (26, some 2), (27, some 2), (28, some 1), (29, some 1), (30, none), (31, some 2), (32, some 2), (33, some 2), (34, some 2)] (by kernel_rfl) (by kernel_rfl) (by kernel_rfl) (by kernel_rfl) (by kernel_rfl) (fun _ _ _ _ _ h => h) ⟨cG, c1, cL⟩ ?_
                    simp only [List.map_cons, List.map_nil, List.getD_cons_succ, List.getD_cons_zero]
                    (repeat (first | (refine qs_now (v := ?_) (by rfl) ?_ ?_; rotate_left 1; (· (intro w' hS; go_simp; (try (simp only [↓IntWalk.iteOmega]; go_simp)); (try simp (disch := omega) only [IntWalk.i64_in]); try with_reducible rfl)); simp only [Act.put, List.setIfInBounds_toArray, List.set_cons_zero, List.set_cons_succ]) | (refine qs_run (v := ?_) (by rfl) ?_ ?_; rotate_left 1; (· (intro j w' hS; go_simp; (try (simp only [↓IntWalk.iteOmega]; go_simp)); (try simp (disch := omega) only [IntWalk.i64_in]); try with_reducible rfl)); simp only [Act.put, List.setIfInBounds_toArray, List.set_cons_zero, List.set_cons_succ]) | (refine qs_mid (v := ?_) (by rfl) ?_ ?_; rotate_left 1; (· (intro j w' hj1 hj2 hS; go_simp; (try (simp only [↓IntWalk.iteOmega]; go_simp)); (try simp (disch := omega) only [IntWalk.i64_in]); try with_reducible rfl)); simp only [Act.put, List.setIfInBounds_toArray, List.set_cons_zero, List.set_cons_succ]) | (refine qs_skip (by rfl) ?_; simp only [Act.put, List.setIfInBounds_toArray, List.set_cons_zero, List.set_cons_succ])))
                    refine qs_act ?_
                    go_wp2_with fail
                    refine (MK.out _).mono ?_
                    rintro ev w2 ⟨rfl, rfl⟩
                    go_wp2
                    refine ⟨⟨cG, c1, cL⟩, ?_⟩
                    (repeat (first | (refine qs_now (v := ?_) (by rfl) ?_ ?_; rotate_left 1; (· (intro w' hS; go_simp; (try (simp only [↓IntWalk.iteOmega]; go_simp)); (try simp (disch := omega) only [IntWalk.i64_in]); try with_reducible rfl)); simp only [Act.put, List.setIfInBounds_toArray, List.set_cons_zero, List.set_cons_succ]) | (refine qs_run (v := ?_) (by rfl) ?_ ?_; rotate_left 1; (· (intro j w' hS; go_simp; (try (simp only [↓IntWalk.iteOmega]; go_simp)); (try simp (disch := omega) only [IntWalk.i64_in]); try with_reducible rfl)); simp only [Act.put, List.setIfInBounds_toArray, List.set_cons_zero, List.set_cons_succ]) | (refine qs_mid (v := ?_) (by rfl) ?_ ?_; rotate_left 1; (· (intro j w' hj1 hj2 hS; go_simp; (try (simp only [↓IntWalk.iteOmega]; go_simp)); (try simp (disch := omega) only [IntWalk.i64_in]); try with_reducible rfl)); simp only [Act.put, List.setIfInBounds_toArray, List.set_cons_zero, List.set_cons_succ]) | (refine qs_skip (by rfl) ?_; simp only [Act.put, List.setIfInBounds_toArray, List.set_cons_zero, List.set_cons_succ])))
                    refine qs_act ?_
                    go_wp2
                    refine ⟨⟨cG, c1, cL⟩, ?_⟩
                    (repeat (first | (refine qs_now (v := ?_) (by rfl) ?_ ?_; rotate_left 1; (· (intro w' hS; go_simp; (try (simp only [↓IntWalk.iteOmega]; go_simp)); (try simp (disch := omega) only [IntWalk.i64_in]); try with_reducible rfl)); simp only [Act.put, List.setIfInBounds_toArray, List.set_cons_zero, List.set_cons_succ]) | (refine qs_run (v := ?_) (by rfl) ?_ ?_; rotate_left 1; (· (intro j w' hS; go_simp; (try (simp only [↓IntWalk.iteOmega]; go_simp)); (try simp (disch := omega) only [IntWalk.i64_in]); try with_reducible rfl)); simp only [Act.put, List.setIfInBounds_toArray, List.set_cons_zero, List.set_cons_succ]) | (refine qs_mid (v := ?_) (by rfl) ?_ ?_; rotate_left 1; (· (intro j w' hj1 hj2 hS; go_simp; (try (simp only [↓IntWalk.iteOmega]; go_simp)); (try simp (disch := omega) only [IntWalk.i64_in]); try with_reducible rfl)); simp only [Act.put, List.setIfInBounds_toArray, List.set_cons_zero, List.set_cons_succ]) | (refine qs_skip (by rfl) ?_; simp only [Act.put, List.setIfInBounds_toArray, List.set_cons_zero, List.set_cons_succ])))
                    refine qs_nil ?_
                    go_wp2
                    go_roundg (gk - 1)
                    case measure => omega
                    case rel => exact ⟨i + 1, de + 1, by omega, by go_num, rfl⟩
                · obtain rfl : i = n k + 64 := by omega
                  go_wp2
                  go_roundg (go - 1)
                  case measure => omega
                  case rel => exact ⟨k + 1, de, by omega, by go_num, rfl⟩
            · obtain rfl : K = k := by omega
              have SD := Lib.hid (show St (w3.drewN dd) base L Gb K V n (fun j => mks j (n j) ++ mks (j + K) 64) 0 G from
                ⟨fun j hj => S.out.1 j hj, S.out.2.1, S.out.2.2.1, fun j hj => absurd hj (by omega), fun i j hi hj => absurd hj (by omega), fun i j hi => absurd hi (by omega)⟩)
              have BD := Lib.hid (B.out.below (below_drewN (Below.refl _ _) dd))
              clear S B
              go_wp2
              go_loopg [11] K (FG w base L Gb K V n (fun j => mks j (n j) ++ mks (j + K) 64))
              case atStart => exact ⟨0, G, by omega, rfl, SD.out, BD.out⟩
              case round =>
                clear SD BD
                obtain ⟨k, G, hk, rfl, hs, hb'⟩ := hrel
                have S := Lib.hid hs
                have B := Lib.hid hb'
                clear hs hb'
                by_cases hkK : k < K
                · have hkI : (k : Int) < K := by omega
                  obtain ⟨go, hgo⟩ : ∃ go, go = gk := ⟨_, rfl⟩
                  rw [← hgo] at hk
                  have hnk := HN.out k hkK
                  go_wp2_with (refine mk_bytes rfl (.const (.int .i64 64)) (.const (.int .i64 64)) rfl wr.heap.size 64 _ _ rfl rfl rfl rfl (by omega) (Nat.le_refl _) ?_; intro w4 ho4 hg4; have O4 := Lib.hid ho4; have N4 := Lib.hid hg4; clear ho4 hg4)
                  obtain ⟨M, hM⟩ : ∃ M, M = wr.heap.size := ⟨_, rfl⟩
                  rw [← hM] at O4 ⊢
                  have B4 := Lib.hid (show Below M wr w4 by rw [hM]; exact bl_n (Below.refl _ _) N4.out)
                  have HM := Lib.hid hM
                  clear hM N4
                  go_loopg [13] 64 (Pf7 wr M (k + K))
                  case atStart => exact ⟨0, List.replicate 64 0, by omega, rfl, by simpa using O4.out, rfl, B4.out⟩
                  case round =>
                    clear O4 B4
                    obtain ⟨i, z, hi, rfl, ho, hz, hbz⟩ := hrel
                    have O := Lib.hid ho
                    have HZ := Lib.hid hz
                    have BZ := Lib.hid hbz
                    clear ho hz hbz
                    by_cases hik : i < 64
                    · have hikI : (i : Int) < 64 := by omega
                      have hsum := Lib.hid (show (k : Int) + (K : Int) = ((k + K : Nat) : Int) by omega)
                      have MK := Lib.hid (fun wz => markByte_any ((k + K : Nat) : Int) (i : Int) wz (by omega) (by omega))
                      obtain ⟨y, hy⟩ : ∃ y, y = mb ((k + K : Nat) : Int) (i : Int) := ⟨_, rfl⟩
                      have HY := Lib.hid hy
                      rw [← hy] at MK
                      have q2 := O.out.frozenAt i
                      have hlen : z.length = 64 := by have := O.out.1; simpa using this
                      have q1 := O.out.cellAt i (by omega)
                      rw [List.getElem?_map, List.getElem?_eq_getElem (by omega)] at q1
                      simp only [Option.map_some] at q1
                      generalize z[i]'(by omega) = x at *
                      clear hy
                      go_wp2_with (first
                        | (go_at_call 87; rw [hsum.out]; refine (MK.out _).mono ?_; rintro ev w2 ⟨rfl, rfl⟩))
                      go_roundg (gk - 1)
                      case measure => omega
                      case rel =>
                        have hst := O.out.stored i (.int .u8 y)
                        refine ⟨i + 1, z.set i y, by omega, by go_num, by rw [List.map_set]; exact hst.1, ?_, below_put BZ.out _ _ (Nat.le_refl _)⟩
                        rw [mks_succ, ← HZ.out, ← HY.out, List.take_add_one, List.getElem?_set_self (by omega), List.take_set_of_le (Nat.le_refl _)]
                        rfl
                    · obtain rfl : i = 64 := by omega
                      have hz64 : z = mks (k + K) 64 := by
                        have := HZ.out
                        rwa [List.take_of_length_le (by have := O.out.1; simp at this; omega)] at this
                      rw [hz64] at O
                      have SZ := Lib.hid (S.out.below (by rw [← HM.out]; exact BZ.out))
                      have BB := Lib.hid (B.out.below (by rw [← HM.out]; exact BZ.out))
                      clear HZ hz64
                      have cL := SZ.out.2.1.cell hkK
                      obtain ⟨A, c, hV, _⟩ := own_slice (SZ.out.1 k hkK)
                      have oV := SZ.out.1 k hkK
                      have gV := Gv.start SZ.out hkK HA.out
                      rw [hV] at cL oV gV
                      have OV := Lib.hid oV
                      have GV := Lib.hid gV
                      have fG := SZ.out.2.2.1.free k
                      clear hV oV gV
                      go_wp2_with (refine app_fine rfl (.tmp 148) (.tmp 149) 24 rfl base 5 _ 1 Tryz.underlying24 infoByte rfl _ (n k) _ rfl OV.out _ 64 _ rfl (Src.of_own O.out) (bytes_oneCell _) (by omega) (by omega) (by omega) BB.out.le ?_; intro v2 w2 ho2 hf2; obtain ⟨A2, c2, hv2, _⟩ := own_slice ho2; subst hv2; have hst := St.app SZ.out hkK GV.out OV.out (Nat.le_refl _) (mks_take _ _ _ (Nat.le_refl _)) (ys := mks (k + K) 64) (by simpa using ho2) hf2; have cG := hst.1.2.2.1.cell hkK; have fG2 := hst.1.2.2.1.free k; have S2 := Lib.hid hst; have O2 := Lib.hid ho2; have FN2 := Lib.hid hf2; clear ho2 hf2 hst)
                      have B2 := Lib.hid (Bel.app BB.out OV.out FN2.out)
                      go_roundg (go - 1)
                      case measure => omega
                      case rel =>
                        exact ⟨k + 1, updV G k _, by omega, by go_num, S2.out.1.lay hkK S2.out.2 (by simpa using O2.out) HLG, B2.out.putNew hGb2 _ _⟩
                · obtain rfl : K = k := by omega
                  obtain ⟨w5, hw5⟩ : ∃ w5, w5 = wr := ⟨_, rfl⟩
                  rw [← hw5] at S B ⊢
                  clear hw5
                  go_wp2
                  go_loopg [14] K (RO K w5)
                  case atStart => exact ⟨0, 0, by omega, rfl, rfl⟩
                  case round =>
                    obtain ⟨k, dd, hk, rfl, rfl⟩ := hrel
                    by_cases hkK : k < K
                    · have hkI : (k : Int) < K := by omega
                      have cL0 := S.out.2.1.cell hkK
                      obtain ⟨A, c, hVk, _⟩ := own_slice (S.out.1 k hkK)
                      rw [hVk] at cL0
                      have HVk := Lib.hid hVk
                      have cL : (w5.drewN dd).cell? ⟨L, k, none⟩ = some (.slice A (n k) c) := cL0
                      obtain ⟨go, hgo⟩ : ∃ go, go = gk := ⟨_, rfl⟩
                      rw [← hgo] at hk
                      have hnk := HN.out k hkK
                      clear hVk cL0
                      go_wp2
                      go_loopg [15] (n k) (RO (n k) w5)
                      case atStart => exact ⟨0, dd, by omega, rfl, rfl⟩
                      case round =>
                        clear cL
                        obtain ⟨i, de, hi, rfl, rfl⟩ := hrel
                        have cL0 := S.out.2.1.cell hkK
                        rw [HVk.out] at cL0
                        have cL : (w5.drewN de).cell? ⟨L, k, none⟩ = some (.slice A (n k) c) := cL0
                        clear cL0
                        by_cases hik : i < n k
                        · have hikI : (i : Int) < (n k : Int) := by omega
                          have hok := S.out.1 k hkK
                          rw [HVk.out] at hok
                          obtain ⟨g, cc, hv, hbg, hlt2⟩ := hok.form (by omega)
                          injection hv with hv hv2 hv3
                          subst hv hv3
                          have q1 := hok.cellAt i (by omega)
                          rw [List.getElem?_map, mks_get k _ i hik] at q1
                          simp only [Option.map_some] at q1
                          have c1 : (w5.drewN de).cell? ⟨g, i, none⟩ = some (.int .u8 (mb (k : Int) (i : Int))) := q1
                          have cG0 := S.out.2.2.1.cell hkK
                          obtain ⟨A2, c2, hGk, _⟩ := own_slice (S.out.2.2.2.1 k hkK)
                          have hok2 := S.out.2.2.2.1 k hkK
                          rw [hGk] at cG0 hok2
                          obtain ⟨g2, cc2, hv, _, _⟩ := hok2.form (show 0 < n k + 64 by omega)
                          injection hv with hv hv2 hv3
                          subst hv hv3
                          have cG : (w5.drewN de).cell? ⟨Gb, k, none⟩ = some (.slice (some ⟨g2, 0, none⟩) (n k + 64) c2) := cG0
                          have q2 := hok2.cellAt i (show i < (n k + 64) * 1 by omega)
                          rw [List.getElem?_map, List.getElem?_append_left (by rw [mks_len]; omega), mks_get k _ i hik] at q2
                          simp only [Option.map_some] at q2
                          have c3 : (w5.drewN de).cell? ⟨g2, i, none⟩ = some (.int .u8 (mb (k : Int) (i : Int))) := q2
                          have MK := Lib.hid (fun wz => markByte_any k i wz (by omega) (by omega))
                          have HMB := Lib.hid (show ∃ y, y = mb (k : Int) (i : Int) from ⟨_, rfl⟩)
                          clear hok q1 cG0 hGk hok2 q2
                          obtain ⟨y, hy⟩ := HMB.out
                          rw [← hy] at MK c1 c3
                          have dy : (y == y) = true := by simp
                          have hik2 : i < n k + 64 := by omega
                          clear HMB hy
                          go_wp2
                          refine wp_region_qs (fun jj w' => w'.cell? ⟨Gb, k, none⟩ = some (.slice (some ⟨g2, 0, none⟩) (n k + 64) c2) ∧ w'.cell? ⟨g2, i, none⟩ = some (.int .u8 y) ∧ w'.cell? ⟨L, k, none⟩ = some (.slice (some ⟨g, 0, none⟩) (n k) c) ∧ w'.cell? ⟨g, i, none⟩ = some (.int .u8 y)) [(0, some 2), (1, some 2), (2, some 2), (3, some 2), (4, some 2), (5, some 2), (6, some 2), (7, some 1), (8, some 1), (9, none), (10, some 2), (11, some 2), (12, some 1), (13, some 2), (14, some 2), (15, some 2), (16, some 2), (17, some 2), (18, some 2), (19, some 2), (20, some 1), (21, some 1), (22, none), (23, some 2), (24, some 2), (25, some 2)] (by kernel_rfl) (by kernel_rfl) (by kernel_rfl) (by kernel_rfl) (by kernel_rfl) (fun _ _ _ _ _ h => h) ⟨cG, c3, cL, c1⟩ ?_
                          simp only [List.map_cons, List.map_nil, List.getD_cons_succ, List.getD_cons_zero]
                          (repeat (first | (refine qs_now (v := ?_) (by rfl) ?_ ?_; rotate_left 1; (· (intro w' hS; go_simp; (try (simp only [↓IntWalk.iteOmega]; go_simp)); (try simp (disch := omega) only [IntWalk.i64_in]); try with_reducible rfl)); simp only [Act.put, List.setIfInBounds_toArray, List.set_cons_zero, List.set_cons_succ]) | (refine qs_run (v := ?_) (by rfl) ?_ ?_; rotate_left 1; (· (intro j w' hS; go_simp; (try (simp only [↓IntWalk.iteOmega]; go_simp)); (try simp (disch := omega) only [IntWalk.i64_in]); try with_reducible rfl)); simp only [Act.put, List.setIfInBounds_toArray, List.set_cons_zero, List.set_cons_succ]) | (refine qs_mid (v := ?_) (by rfl) ?_ ?_; rotate_left 1; (· (intro j w' hj1 hj2 hS; go_simp; (try (simp only [↓IntWalk.iteOmega]; go_simp)); (try simp (disch := omega) only [IntWalk.i64_in]); try with_reducible rfl)); simp only [Act.put, List.setIfInBounds_toArray, List.set_cons_zero, List.set_cons_succ]) | (refine qs_skip (by rfl) ?_; simp only [Act.put, List.setIfInBounds_toArray, List.set_cons_zero, List.set_cons_succ])))
                          refine qs_act ?_
                          go_wp2_with fail
                          refine (MK.out _).mono ?_
                          rintro ev w2 ⟨rfl, rfl⟩
                          go_wp2
                          refine ⟨⟨cG, c3, cL, c1⟩, ?_⟩
                          (repeat (first | (refine qs_now (v := ?_) (by rfl) ?_ ?_; rotate_left 1; (· (intro w' hS; go_simp; (try (simp only [↓IntWalk.iteOmega]; go_simp)); (try simp (disch := omega) only [IntWalk.i64_in]); try with_reducible rfl)); simp only [Act.put, List.setIfInBounds_toArray, List.set_cons_zero, List.set_cons_succ]) | (refine qs_run (v := ?_) (by rfl) ?_ ?_; rotate_left 1; (· (intro j w' hS; go_simp; (try (simp only [↓IntWalk.iteOmega]; go_simp)); (try simp (disch := omega) only [IntWalk.i64_in]); try with_reducible rfl)); simp only [Act.put, List.setIfInBounds_toArray, List.set_cons_zero, List.set_cons_succ]) | (refine qs_mid (v := ?_) (by rfl) ?_ ?_; rotate_left 1; (· (intro j w' hj1 hj2 hS; go_simp; (try (simp only [↓IntWalk.iteOmega]; go_simp)); (try simp (disch := omega) only [IntWalk.i64_in]); try with_reducible rfl)); simp only [Act.put, List.setIfInBounds_toArray, List.set_cons_zero, List.set_cons_succ]) | (refine qs_skip (by rfl) ?_; simp only [Act.put, List.setIfInBounds_toArray, List.set_cons_zero, List.set_cons_succ])))
                          refine qs_act ?_
                          go_wp2_with fail
                          refine (MK.out _).mono ?_
                          rintro ev w2 ⟨rfl, rfl⟩
                          go_wp2
                          refine ⟨⟨cG, c3, cL, c1⟩, ?_⟩
                          (repeat (first | (refine qs_now (v := ?_) (by rfl) ?_ ?_; rotate_left 1; (· (intro w' hS; go_simp; (try (simp only [↓IntWalk.iteOmega]; go_simp)); (try simp (disch := omega) only [IntWalk.i64_in]); try with_reducible rfl)); simp only [Act.put, List.setIfInBounds_toArray, List.set_cons_zero, List.set_cons_succ]) | (refine qs_run (v := ?_) (by rfl) ?_ ?_; rotate_left 1; (· (intro j w' hS; go_simp; (try (simp only [↓IntWalk.iteOmega]; go_simp)); (try simp (disch := omega) only [IntWalk.i64_in]); try with_reducible rfl)); simp only [Act.put, List.setIfInBounds_toArray, List.set_cons_zero, List.set_cons_succ]) | (refine qs_mid (v := ?_) (by rfl) ?_ ?_; rotate_left 1; (· (intro j w' hj1 hj2 hS; go_simp; (try (simp only [↓IntWalk.iteOmega]; go_simp)); (try simp (disch := omega) only [IntWalk.i64_in]); try with_reducible rfl)); simp only [Act.put, List.setIfInBounds_toArray, List.set_cons_zero, List.set_cons_succ]) | (refine qs_skip (by rfl) ?_; simp only [Act.put, List.setIfInBounds_toArray, List.set_cons_zero, List.set_cons_succ])))
                          refine qs_nil ?_
                          go_wp2
                          go_roundg (gk - 1)
                          case measure => omega
                          case rel => exact ⟨i + 1, de + 1, by omega, by go_num, rfl⟩
                        · obtain rfl : i = n k := by omega
                          go_wp2
                          go_roundg (go - 1)
                          case measure => omega
                          case rel => exact ⟨k + 1, de, by omega, by go_num, rfl⟩
                    · obtain rfl : K = k := by omega
                      go_wp2
                      go_ret
                      exact ⟨rfl, B.out.below (below_drewN (Below.refl _ _) dd)⟩
end Go.Proofs.YtfehgpjnlkgekaaGreatDoor
