/-
  Small words for memory used by all walks: a block known whole, a row of numbers that is read, and how they are kept.
  A row that is cut in two.
-/
import Derived.WalkKit
import Derived.WalkSpells
import Derived.WalkLawsBesides
import Derived.Handy
import Derived.Lib.Hide
import Derived.Maps.AppendAt
import Derived.Deep.AppendLies
import Derived.Deep.QuietTactic
import Derived.BigQuiet
import Derived.Deep.RegionHeld3
import Derived.Deep.MidRow
import Derived.Deep.DrawnRows
import Derived.Deep.DeepCutAuto
import Derived.Deep.LoopGhost
namespace Go.Proofs.YtacidmamfkfipaaDoor
open Go.RowKit
set_option linter.unusedVariables false

def Blk (w : World) (g : Nat) (t : TypeId) (cs : Array Value) : Prop := w.heap[g]? = some (.cells cs t (0, 0))

section
variable {w w' : World} {g : Nat} {t : TypeId} {cs : Array Value}
theorem Blk.lt (h : Blk w g t cs) : g < w.heap.size := by
  rcases Nat.lt_or_ge g w.heap.size with hlt | hge
  · exact hlt
  · unfold Blk at h; rw [Array.getElem?_eq_none hge] at h; cases h
theorem Blk.cellq (h : Blk w g t cs) (i : Nat) : w.cell? ⟨g, i, none⟩ = cs[i]? := cell_of_row w g i cs t (0, 0) h
theorem Blk.cell (h : Blk w g t cs) {i : Nat} {v : Value} (hv : cs[i]? = some v) : w.cell? ⟨g, i, none⟩ = some v := (h.cellq i).trans hv
theorem Blk.free (h : Blk w g t cs) (i : Nat) : w.frozen? ⟨g, i, none⟩ = false := frozen_of_row w g i cs t h
theorem Blk.made (w : World) (t : TypeId) (cs : Array Value) : Blk (w.alloc (.cells cs t)) w.heap.size t cs := heap_alloc_new w _
theorem Blk.made_at (w : World) (t : TypeId) (cs : Array Value) {g : Nat} (hg : g = w.heap.size) : Blk (w.alloc (.cells cs t)) g t cs := by subst hg; exact heap_alloc_new w _
theorem Blk.drew (h : Blk w g t cs) : Blk w.drew g t cs := h
theorem Blk.drewN (h : Blk w g t cs) (n : Nat) : Blk (w.drewN n) g t cs := h
theorem Blk.alloc (h : Blk w g t cs) (o : Obj) : Blk (w.alloc o) g t cs := (Below.heap_alloc w o g h.lt).trans h
theorem Blk.put (h : Blk w g t cs) (i : Nat) (u : Value) : Blk (w.setCell ⟨g, i, none⟩ u) g t (cs.setIfInBounds i u) := heap_setCell_same w g i cs t u h
theorem Blk.else_ (h : Blk w g t cs) {p : Addr} (hp : g ≠ p.block) (u : Value) : Blk (w.setCell p u) g t cs := (Below.heap_setCell w p u g hp).trans h
theorem Blk.below {B : Nat} (h : Blk w g t cs) (hb : Below B w w') (hg : g < B) : Blk w' g t cs := (hb.block g hg).trans h
theorem Blk.grown {row : Option Nat} (h : Blk w g t cs) (hb : w.grownBy w' row) (hg : some g ≠ row) : Blk w' g t cs := (hb.block g h.lt hg).trans h

/-! ### A whole array or struct out of, and into, a block that is known -/
theorem Blk.range (h : Blk w g t cs) : w.rangeAt g 0 cs.toList := fun j v hv => by
  rw [Nat.zero_add, h.cellq]; simpa using hv
theorem Blk.isThere (h : Blk w g t cs) (o n : Nat) (hn : o + n ≤ cs.size) : w.there g o n := fun j hj => by
  refine ⟨?_, h.free _⟩
  rw [h.cellq, Array.getElem?_eq_getElem (by omega)]; rfl
def putAt (cs : Array Value) : Nat → List Value → Array Value
  | _, [] => cs
  | o, v :: r => putAt (cs.setIfInBounds o v) (o + 1) r
theorem size_putAt : ∀ (vs : List Value) (cs : Array Value) (o : Nat), (putAt cs o vs).size = cs.size
  | [], _, _ => rfl
  | v :: r, cs, o => by unfold putAt; rw [size_putAt r]; simp
theorem putAt_out : ∀ (vs : List Value) (cs : Array Value) (o i : Nat), i < o ∨ o + vs.length ≤ i → (putAt cs o vs)[i]? = cs[i]?
  | [], _, _, _, _ => rfl
  | v :: r, cs, o, i, h => by
    unfold putAt
    simp only [List.length_cons] at h
    rw [putAt_out r _ _ _ (by omega), Array.getElem?_setIfInBounds, if_neg (by omega)]
theorem putAt_in : ∀ (vs : List Value) (cs : Array Value) (o j : Nat), j < vs.length → o + vs.length ≤ cs.size → (putAt cs o vs)[o + j]? = vs[j]?
  | [], _, _, j, h, _ => by simp at h
  | v :: r, cs, o, j, h, hs => by
    unfold putAt
    simp only [List.length_cons] at h hs
    rcases Nat.eq_zero_or_pos j with rfl | hj
    · rw [putAt_out r _ _ _ (by omega), Nat.add_zero, Array.getElem?_setIfInBounds, if_pos rfl, if_pos (by omega)]; rfl
    · have := putAt_in r (cs.setIfInBounds o v) (o + 1) (j - 1) (by omega) (by simp; omega)
      rw [show o + 1 + (j - 1) = o + j from by omega] at this
      rw [this, show j = (j - 1) + 1 from by omega]; rfl
theorem putAt_all (vs : List Value) (cs : Array Value) (h : vs.length = cs.size) : putAt cs 0 vs = vs.toArray := by
  apply Array.ext_getElem?
  intro i
  by_cases hi : i < vs.length
  · have := putAt_in vs cs 0 i hi (by omega)
    rw [Nat.zero_add] at this
    rw [this]; simp
  · rw [Array.getElem?_eq_none (by rw [size_putAt]; omega), Array.getElem?_eq_none (by simp; omega)]
theorem Blk.puts : ∀ (vs : List Value) (w : World) (cs : Array Value) (o : Nat), Blk w g t cs → Blk (w.setCells g o vs) g t (putAt cs o vs)
  | [], _, _, _, h => h
  | v :: r, w, cs, o, h => Blk.puts r _ _ _ (h.put o v)
theorem grown_setCells : ∀ (vs : List Value) (w : World) (o : Nat), w.grownBy (w.setCells g o vs) (some g) ∧ (w.setCells g o vs).heap.size = w.heap.size
  | [], w, _ => ⟨World.grownBy.refl w _, rfl⟩
  | v :: r, w, o => by
    have hg : w.grownBy (w.setCell ⟨g, o, none⟩ v) (some g) := ⟨rfl, rfl, rfl, by simp, fun k _ hk => Below.heap_setCell w _ v k (fun e => hk (by rw [e]))⟩
    obtain ⟨h1, h2⟩ := grown_setCells r (w.setCell ⟨g, o, none⟩ v) (o + 1)
    exact ⟨hg.trans h1, h2.trans (by simp)⟩

section
variable {P : Program} {ops : Array Oper} {rest : List Oper} {op : Oper} {a : Act} {Q : Exit → Act → World → Prop}
/-- A variable that is a whole block is read. -/
theorem wpl_load_blk (hgd : op.guard = none) (ty : TypeId) (x : Operand) (ho : op.op = .load ty x) (g : Nat) (hx : a.eval x = .pointer (some ⟨g, 0, none⟩)) (t : TypeId) (cs : Array Value) (hb : Blk w g t cs)
    (d : TypeDesc) (hu : P.underlying ty = some d) (hd : d.isRow = true) (m : Nat) (hi : (P.info? ty).map (·.size) = some m) (hm : cs.size = m)
    (h : wpList P ops Q rest (a.put op.dst (.agg cs)) w) : wpList P ops Q (op :: rest) a w :=
  wpList_load_mid hgd ty x ho g 0 hx cs.toList d hb.range hu hd (by rw [hi]; simp [hm]) (by simpa using h)
/-- A value is stored into a variable that is a whole block: behind it the world is a letter. -/
theorem wpl_store_blk (hgd : op.guard = none) (ty : TypeId) (x y : Operand) (ho : op.op = .store ty x y) (g : Nat) (vs : Array Value) (hx : a.eval x = .pointer (some ⟨g, 0, none⟩)) (hy : a.eval y = .agg vs)
    (t : TypeId) (cs : Array Value) (hb : Blk w g t cs) (m : Nat) (hi : (P.info? ty).map (·.size) = some m) (hm : cs.size = m) (hv : vs.size = m) (h1 : ∀ v ∈ vs.toList, v.oneCell' = true)
    (h : ∀ w1, Blk w1 g t vs → w.grownBy w1 (some g) → w1.heap.size = w.heap.size → wpList P ops Q rest (a.put op.dst undef) w1) : wpList P ops Q (op :: rest) a w := by
  refine wpList_store_mid hgd ty x y ho g 0 vs hx hy (hb.isThere 0 _ (by omega)) (by rw [hi, hv]) (by have := all_oneCell_toArray h1; simpa using this) (h _ ?_ (grown_setCells _ w 0).1 (grown_setCells _ w 0).2)
  have := Blk.puts vs.toList w cs 0 hb
  rw [putAt_all _ _ (by simp; omega)] at this
  simpa using this
/-- .. the same, where only 'nothing else has turned' is wanted (the cells may be anything of one cell each, or the value is dropped later). -/
theorem wpl_store_any_cells (hgd : op.guard = none) (ty : TypeId) (x y : Operand) (ho : op.op = .store ty x y) (g : Nat) (vs : Array Value) (hx : a.eval x = .pointer (some ⟨g, 0, none⟩)) (hy : a.eval y = .agg vs)
    (t : TypeId) (cs : Array Value) (hb : Blk w g t cs) (m : Nat) (hi : (P.info? ty).map (·.size) = some m) (hm : cs.size = m) (hv : vs.size = m) (h1 : ∀ v ∈ vs.toList, v.oneCell' = true)
    (h : ∀ w1, w.grownBy w1 (some g) → wpList P ops Q rest (a.put op.dst undef) w1) : wpList P ops Q (op :: rest) a w :=
  wpl_store_blk hgd ty x y ho g vs hx hy t cs hb m hi hm hv h1 (fun w1 _ h2 _ => h w1 h2)
theorem results_blk_tmp {fn : Func} {p u : Tmp} {ty : TypeId} (h : fn.results = #[.cell p ty, .tmp u]) (tmps : Array Value) (g : Nat) (hp : tmps.getD p undef = .pointer (some ⟨g, 0, none⟩)) (t : TypeId) (cs : Array Value) (hb : Blk w g t cs)
    (d : TypeDesc) (hu : P.underlying ty = some d) (hd : d.isRow = true) (m : Nat) (hi : (P.info? ty).map (·.size) = some m) (hm : cs.size = m) :
    (results fn tmps).run P w = .ok (.tuple #[.agg cs, tmps.getD u undef]) w := by
  have hl := run_loadVar_mid (P := P) w g 0 ty cs.toList d hb.range hu hd (by rw [hi]; simp [hm])
  rw [results_cell_tmp h, hp]
  simp only [Array.toArray_toList] at hl
  simp [asAddr, hl]
theorem results_blk {fn : Func} {p : Tmp} {ty : TypeId} (h : fn.results = #[.cell p ty]) (tmps : Array Value) (g : Nat) (hp : tmps.getD p undef = .pointer (some ⟨g, 0, none⟩)) (t : TypeId) (cs : Array Value) (hb : Blk w g t cs)
    (d : TypeDesc) (hu : P.underlying ty = some d) (hd : d.isRow = true) (m : Nat) (hi : (P.info? ty).map (·.size) = some m) (hm : cs.size = m) :
    (results fn tmps).run P w = .ok (.agg cs) w := by
  have hl := run_loadVar_mid (P := P) w g 0 ty cs.toList d hb.range hu hd (by rw [hi]; simp [hm])
  have hp' : tmps[p]?.getD undef = .pointer (some ⟨g, 0, none⟩) := by simpa using hp
  simp only [Array.toArray_toList] at hl
  simp [results, h, hp', asAddr, hl]
end
end

/-- A slice value '.slice A n c' that reads as the numbers zs. -/
def RdI (k : IntKind) (w : World) (A : Option Addr) (n : Nat) (zs : List Int) : Prop :=
  zs.length = n ∧ (0 < n → ∃ b off, A = some ⟨b, off, none⟩ ∧ b < w.heap.size ∧ ∀ j, j < n → w.cell? ⟨b, off + j, none⟩ = some (.int k (zs.getD j 0)))

section
variable {k : IntKind} {w w' : World} {A : Option Addr} {n : Nat} {zs : List Int}
theorem RdI.keep (h : RdI k w A n zs) (hs : w.heap.size ≤ w'.heap.size) (hb : ∀ g, g < w.heap.size → w'.heap[g]? = w.heap[g]?) : RdI k w' A n zs :=
  ⟨h.1, fun hn => by
    obtain ⟨b, off, e, hlt, hc⟩ := h.2 hn
    exact ⟨b, off, e, by omega, fun j hj => (World.cell?_of_block (a := ⟨b, off + j, none⟩) (hb b hlt)).trans (hc j hj)⟩⟩
theorem RdI.below (h : RdI k w A n zs) (hb : Below w.heap.size w w') : RdI k w' A n zs := h.keep hb.size hb.block
theorem RdI.cell (h : RdI k w A n zs) (hb : Below w.heap.size w w') {j : Nat} (hj : j < n) :
    ∃ b off, A = some ⟨b, off, none⟩ ∧ b < w.heap.size ∧ w'.cell? ⟨b, off + j, none⟩ = some (.int k (zs.getD j 0)) := by
  obtain ⟨b, off, e, hlt, hc⟩ := (h.below hb).2 (by omega)
  obtain ⟨b', off', e', hlt', _⟩ := h.2 (by omega)
  rw [e] at e'
  simp only [Option.some.injEq, Addr.mk.injEq, and_true] at e'
  exact ⟨b, off, e, by omega, hc j hj⟩
theorem RdI.nil (A : Option Addr) : RdI k w A 0 [] := ⟨rfl, fun h => absurd h (by omega)⟩
theorem RdI.of_own {base : Nat} {e : TypeId} {c : Nat} (h : w.ownsRow base e 1 (.slice A n c) n (zs.map (Value.int k))) : RdI k w A n zs := by
  have hl : zs.length = n := by simpa using h.1
  refine ⟨hl, fun hn => ?_⟩
  obtain ⟨g, cap, hv, _, hlt⟩ := h.form hn
  have hA : A = some ⟨g, 0, none⟩ := by injection hv
  subst hA
  refine ⟨g, 0, rfl, hlt, fun j hj => ?_⟩
  have hj' : j < zs.length := by omega
  have := h.cells (g := g) rfl j (Value.int k (zs.getD j 0)) (by simp [hj'])
  rw [Addr.add_mid] at this
  exact this
end

/-- An owned row's value is a slice value of its length. -/
theorem own_slice {w : World} {base : Nat} {e : TypeId} {size : Nat} {v : Value} {n : Nat} {xs : List Value} (h : w.ownsRow base e size v n xs) :
    ∃ A c, v = .slice A n c ∧ n ≤ c := by
  rcases h.2 with ⟨rfl, rfl⟩ | ⟨g, cap, cur, rfl, _, _, h2, _⟩
  · exact ⟨_, _, rfl, Nat.le_refl _⟩
  · exact ⟨_, _, rfl, h2⟩

theorem grown_put (w : World) (p : Addr) (u : Value) : w.grownBy (w.setCell p u) (some p.block) := ⟨rfl, rfl, rfl, by simp, fun k _ hk => Below.heap_setCell w p u k (fun e => hk (by rw [e]))⟩
theorem own_else {w : World} {base : Nat} {e : TypeId} {size g n cap : Nat} {xs : List Value} (h : w.ownsRow base e size (.slice (some ⟨g, 0, none⟩) n cap) n xs) {p : Addr} (hp : p.block ≠ g) (u : Value) :
    (w.setCell p u).ownsRow base e size (.slice (some ⟨g, 0, none⟩) n cap) n xs := h.kept (grown_put w p u) (.inr (by simp only [Value.ownBlock]; intro hh; injection hh with hh; exact hp hh.symm))
theorem below_drewN {B : Nat} {a w : World} (h : Below B a w) (n : Nat) : Below B a (w.drewN n) := ⟨h.os, h.tape, h.output, h.size, h.block⟩
theorem below_of_grown {a w w' : World} {row : Option Nat} (h : Below a.heap.size a w) (hg : w.grownBy w' row) (hr : ∀ k, row = some k → a.heap.size ≤ k) : Below a.heap.size a w' :=
  h.grown hg h.size hr
theorem below_chain {a w w' : World} (h : Below a.heap.size a w) (hb : Below w.heap.size w w') : Below a.heap.size a w' := h.trans (hb.mono h.size)

theorem bl_ag {a w w' : World} {o : Obj} (h : Below a.heap.size a w) (hg : (w.alloc o).grownBy w' (some w.heap.size)) : Below a.heap.size a w' :=
  (h.alloc h.size o).grown hg (by have := h.size; simp; omega) (fun k hk => by injection hk with hk; have := h.size; omega)
theorem bl_n {a w w' : World} (h : Below a.heap.size a w) (hg : w.grownBy w' none) : Below a.heap.size a w' := h.grown hg h.size (fun k hk => by cases hk)
theorem bl_g {a w w' : World} {g : Nat} (h : Below a.heap.size a w) (hg : w.grownBy w' (some g)) (hr : a.heap.size ≤ g) : Below a.heap.size a w' := h.grown hg h.size (fun k hk => by injection hk with hk; omega)
theorem results_tmp4 {fn : Func} {t u v x : Tmp} (h : fn.results = #[.tmp t, .tmp u, .tmp v, .tmp x]) (tmps : Array Value) (P : Program) (w : World) :
    (results fn tmps).run P w = .ok (.tuple #[tmps.getD t undef, tmps.getD u undef, tmps.getD v undef, tmps.getD x undef]) w := by simp [results, h]
end Go.Proofs.YtacidmamfkfipaaDoor
namespace Go.Proofs.YtacidmamfkfipaaDoor
open Go.RowKit
set_option linter.unusedVariables false

theorem rd_take {k : IntKind} {w : World} {A : Option Addr} {n : Nat} {zs : List Int} (h : RdI k w A n zs) (p : Nat) (hp : p ≤ n) : RdI k w A p (zs.take p) := by
  refine ⟨by rw [List.length_take, h.1]; omega, fun hn => ?_⟩
  obtain ⟨b, off, rfl, hlt, hc⟩ := h.2 (by omega)
  refine ⟨b, off, rfl, hlt, fun j hj => ?_⟩
  rw [hc j (by omega)]
  simp [hj]
theorem rd_from {k : IntKind} {w : World} {b off n : Nat} {zs : List Int} (h : RdI k w (some ⟨b, off, none⟩) n zs) (p : Nat) (hp : p ≤ n) : RdI k w (some ⟨b, off + p, none⟩) (n - p) (zs.drop p) := by
  refine ⟨by rw [List.length_drop, h.1], fun hn => ?_⟩
  obtain ⟨b, off, e, hlt, hc⟩ := h.2 (by omega)
  injection e with e
  injection e with e1 e2
  subst e1
  subst e2
  refine ⟨_, _, rfl, hlt, fun j hj => ?_⟩
  rw [Nat.add_assoc, hc (p + j) (by omega)]
  simp
end Go.Proofs.YtacidmamfkfipaaDoor
