/-
  what this claim needs of: Mem (written by cut.py).
-/
import Derived.WalkKit
import Derived.WalkSpells
import Derived.WalkLawsBesides
import Derived.Handy
import Derived.Lib.Hide
import Derived.Maps.AppendAt
import Derived.Deep.AppendLies
import Derived.Deep.QuietTactic
import Derived.BigQuiet
import Derived.Deep.RegionHeld3
import Derived.Deep.MidRow
import Derived.Deep.DrawnRows
import Derived.Deep.DeepCutAuto
import Derived.Deep.LoopGhost
import Derived.Test.YtffalfacakdhkaaGreatDoorProg
namespace Go.Proofs.YtffalfacakdhkaaGreatDoor
open Go.RowKit
set_option linter.unusedVariables false

theorem yA {α : Type _} (l : List α) (i : Nat) (a : α) : l.toArray.setIfInBounds i a = (l.set i a).toArray := List.setIfInBounds_toArray l i a
theorem yB {α : Type _} (a b : α) (l : List α) : (a :: l).set 0 b = b :: l := rfl
theorem yC {α : Type _} (a b : α) (l : List α) (n : Nat) : (a :: l).set (n + 1) b = a :: l.set n b := rfl
theorem yD {α : Type _} {β : Type _} (f : α → β) (a : α) (l : List α) : List.map f (a :: l) = f a :: List.map f l := rfl
theorem yE {α : Type _} {β : Type _} (f : α → β) : List.map f [] = [] := rfl
theorem yF {α : Type _} (x d : α) (l : List α) (n : Nat) : (x :: l).getD (n + 1) d = l.getD n d := List.getD_cons_succ
theorem yG {α : Type _} (x d : α) (l : List α) : (x :: l).getD 0 d = x := List.getD_cons_zero
theorem yH {p : Prop} (h : p) : Hid p := Lib.hid h
def Blk (w : World) (g : Nat) (t : TypeId) (cs : Array Value) : Prop := w.heap[g]? = some (.cells cs t (0, 0))

section
variable {w w' : World} {g : Nat} {t : TypeId} {cs : Array Value}
theorem Blk.lt (h : Blk w g t cs) : g < w.heap.size := by
 rcases Nat.lt_or_ge g w.heap.size with hlt | hge
 ·exact hlt
 ·unfold Blk at h; rw [Array.getElem?_eq_none hge] at h; cases h
theorem Blk.cellq (h : Blk w g t cs) (i : Nat) : w.cell? ⟨g, i, none⟩ = cs[i]? := cell_of_row w g i cs t (0, 0) h
theorem Blk.cell (h : Blk w g t cs) {i : Nat} {v : Value} (hv : cs[i]? = some v) : w.cell? ⟨g, i, none⟩ = some v := (h.cellq i).trans hv
theorem Blk.free (h : Blk w g t cs) (i : Nat) : w.frozen? ⟨g, i, none⟩ = false := frozen_of_row w g i cs t h
theorem Blk.made (w : World) (t : TypeId) (cs : Array Value) : Blk (w.alloc (.cells cs t)) w.heap.size t cs := heap_alloc_new w _
theorem Blk.made_at (w : World) (t : TypeId) (cs : Array Value) {g : Nat} (hg : g = w.heap.size) : Blk (w.alloc (.cells cs t)) g t cs := by subst hg; exact heap_alloc_new w _
theorem Blk.drew (h : Blk w g t cs) : Blk w.drew g t cs := h
theorem Blk.alloc (h : Blk w g t cs) (o : Obj) : Blk (w.alloc o) g t cs := (Below.heap_alloc w o g h.lt).trans h
theorem Blk.put (h : Blk w g t cs) (i : Nat) (u : Value) : Blk (w.setCell ⟨g, i, none⟩ u) g t (cs.setIfInBounds i u) := heap_setCell_same w g i cs t u h
theorem Blk.else_ (h : Blk w g t cs) {p : Addr} (hp : g ≠ p.block) (u : Value) : Blk (w.setCell p u) g t cs := (Below.heap_setCell w p u g hp).trans h
theorem Blk.below {B : Nat} (h : Blk w g t cs) (hb : Below B w w') (hg : g < B) : Blk w' g t cs := (hb.block g hg).trans h
theorem Blk.grown {row : Option Nat} (h : Blk w g t cs) (hb : w.grownBy w' row) (hg : some g ≠ row) : Blk w' g t cs := (hb.block g h.lt hg).trans h

theorem Blk.range (h : Blk w g t cs) : w.rangeAt g 0 cs.toList := fun j v hv => by
 rw [Nat.zero_add, h.cellq]; simpa using hv
theorem Blk.isThere (h : Blk w g t cs) (o n : Nat) (hn : o + n ≤ cs.size) : w.there g o n := fun j hj => by
 refine ⟨?_, h.free _⟩
 rw [h.cellq, Array.getElem?_eq_getElem (by omega)]; rfl
def putAt (cs : Array Value) : Nat → List Value → Array Value
 | _, [] => cs
 | o, v :: r => putAt (cs.setIfInBounds o v) (o + 1) r
theorem size_putAt : ∀ (vs : List Value) (cs : Array Value) (o : Nat), (putAt cs o vs).size = cs.size
 | [], _, _ => rfl
 | v :: r, cs, o => by unfold putAt; rw [size_putAt r]; simp
theorem putAt_out : ∀ (vs : List Value) (cs : Array Value) (o i : Nat), i < o ∨ o + vs.length ≤ i → (putAt cs o vs)[i]? = cs[i]?
 | [], _, _, _, _ => rfl
 | v :: r, cs, o, i, h => by
  unfold putAt
  simp only [List.length_cons] at h
  rw [putAt_out r _ _ _ (by omega), Array.getElem?_setIfInBounds, if_neg (by omega)]
theorem putAt_in : ∀ (vs : List Value) (cs : Array Value) (o j : Nat), j < vs.length → o + vs.length ≤ cs.size → (putAt cs o vs)[o + j]? = vs[j]?
 | [], _, _, j, h, _ => by simp at h
 | v :: r, cs, o, j, h, hs => by
  unfold putAt
  simp only [List.length_cons] at h hs
  rcases Nat.eq_zero_or_pos j with rfl | hj
  ·rw [putAt_out r _ _ _ (by omega), Nat.add_zero, Array.getElem?_setIfInBounds, if_pos rfl, if_pos (by omega)]; rfl
  ·have := putAt_in r (cs.setIfInBounds o v) (o + 1) (j - 1) (by omega) (by simp; omega)
   rw [show o + 1 + (j - 1) = o + j from by omega] at this
   rw [this, show j = (j - 1) + 1 from by omega]; rfl
theorem putAt_all (vs : List Value) (cs : Array Value) (h : vs.length = cs.size) : putAt cs 0 vs = vs.toArray := by
 apply Array.ext_getElem?
 intro i
 by_cases hi : i < vs.length
 ·have := putAt_in vs cs 0 i hi (by omega)
  rw [Nat.zero_add] at this
  rw [this]; simp
 ·rw [Array.getElem?_eq_none (by rw [size_putAt]; omega), Array.getElem?_eq_none (by simp; omega)]
theorem Blk.puts : ∀ (vs : List Value) (w : World) (cs : Array Value) (o : Nat), Blk w g t cs → Blk (w.setCells g o vs) g t (putAt cs o vs)
 | [], _, _, _, h => h
 | v :: r, w, cs, o, h => Blk.puts r _ _ _ (h.put o v)
theorem grown_setCells : ∀ (vs : List Value) (w : World) (o : Nat), w.grownBy (w.setCells g o vs) (some g) ∧ (w.setCells g o vs).heap.size = w.heap.size
 | [], w, _ => ⟨World.grownBy.refl w _, rfl⟩
 | v :: r, w, o => by
  have hg : w.grownBy (w.setCell ⟨g, o, none⟩ v) (some g) := ⟨rfl, rfl, rfl, by simp, fun k _ hk => Below.heap_setCell w _ v k (fun e => hk (by rw [e]))⟩
  obtain ⟨h1, h2⟩ := grown_setCells r (w.setCell ⟨g, o, none⟩ v) (o + 1)
  exact ⟨hg.trans h1, h2.trans (by simp)⟩

section
variable {P : Program} {ops : Array Oper} {rest : List Oper} {op : Oper} {a : Act} {Q : Exit → Act → World → Prop}
/-- A variable that is a whole block is read. -/
theorem wpl_load_blk (hgd : op.guard = none) (ty : TypeId) (x : Operand) (ho : op.op = .load ty x) (g : Nat) (hx : a.eval x = .pointer (some ⟨g, 0, none⟩)) (t : TypeId) (cs : Array Value) (hb : Blk w g t cs)
  (d : TypeDesc) (hu : P.underlying ty = some d) (hd : d.isRow = true) (m : Nat) (hi : (P.info? ty).map (·.size) = some m) (hm : cs.size = m)
  (h : wpList P ops Q rest (a.put op.dst (.agg cs)) w) : wpList P ops Q (op :: rest) a w :=
 wpList_load_mid hgd ty x ho g 0 hx cs.toList d hb.range hu hd (by rw [hi]; simp [hm]) (by simpa using h)
theorem results_blk_tmp {fn : Func} {p u : Tmp} {ty : TypeId} (h : fn.results = #[.cell p ty, .tmp u]) (tmps : Array Value) (g : Nat) (hp : tmps.getD p undef = .pointer (some ⟨g, 0, none⟩)) (t : TypeId) (cs : Array Value) (hb : Blk w g t cs)
  (d : TypeDesc) (hu : P.underlying ty = some d) (hd : d.isRow = true) (m : Nat) (hi : (P.info? ty).map (·.size) = some m) (hm : cs.size = m) :
  (results fn tmps).run P w = .ok (.tuple #[.agg cs, tmps.getD u undef]) w := by
 have hl := run_loadVar_mid (P := P) w g 0 ty cs.toList d hb.range hu hd (by rw [hi]; simp [hm])
 rw [results_cell_tmp h, hp]
 simp only [Array.toArray_toList] at hl
 simp [asAddr, hl]
theorem results_blk {fn : Func} {p : Tmp} {ty : TypeId} (h : fn.results = #[.cell p ty]) (tmps : Array Value) (g : Nat) (hp : tmps.getD p undef = .pointer (some ⟨g, 0, none⟩)) (t : TypeId) (cs : Array Value) (hb : Blk w g t cs)
  (d : TypeDesc) (hu : P.underlying ty = some d) (hd : d.isRow = true) (m : Nat) (hi : (P.info? ty).map (·.size) = some m) (hm : cs.size = m) :
  (results fn tmps).run P w = .ok (.agg cs) w := by
 have hl := run_loadVar_mid (P := P) w g 0 ty cs.toList d hb.range hu hd (by rw [hi]; simp [hm])
 have hp' : tmps[p]?.getD undef = .pointer (some ⟨g, 0, none⟩) := by simpa using hp
 simp only [Array.toArray_toList] at hl
 simp [results, h, hp', asAddr, hl]
end
end

/-- A slice value '.slice A n c' that reads as the numbers zs. -/
def RdI (k : IntKind) (w : World) (A : Option Addr) (n : Nat) (zs : List Int) : Prop :=
 zs.length = n ∧ (0 < n → ∃ b off, A = some ⟨b, off, none⟩ ∧ b < w.heap.size ∧ ∀ j, j < n → w.cell? ⟨b, off + j, none⟩ = some (.int k (zs.getD j 0)))

section
variable {k : IntKind} {w w' : World} {A : Option Addr} {n : Nat} {zs : List Int}
theorem RdI.keep (h : RdI k w A n zs) (hs : w.heap.size ≤ w'.heap.size) (hb : ∀ g, g < w.heap.size → w'.heap[g]? = w.heap[g]?) : RdI k w' A n zs :=
 ⟨h.1, fun hn => by
  obtain ⟨b, off, e, hlt, hc⟩ := h.2 hn
  exact ⟨b, off, e, by omega, fun j hj => (World.cell?_of_block (a := ⟨b, off + j, none⟩) (hb b hlt)).trans (hc j hj)⟩⟩
theorem RdI.below (h : RdI k w A n zs) (hb : Below w.heap.size w w') : RdI k w' A n zs := h.keep hb.size hb.block
theorem RdI.cell (h : RdI k w A n zs) (hb : Below w.heap.size w w') {j : Nat} (hj : j < n) :
  ∃ b off, A = some ⟨b, off, none⟩ ∧ b < w.heap.size ∧ w'.cell? ⟨b, off + j, none⟩ = some (.int k (zs.getD j 0)) := by
 obtain ⟨b, off, e, hlt, hc⟩ := (h.below hb).2 (by omega)
 obtain ⟨b', off', e', hlt', _⟩ := h.2 (by omega)
 rw [e] at e'
 simp only [Option.some.injEq, Addr.mk.injEq, and_true] at e'
 exact ⟨b, off, e, by omega, hc j hj⟩
theorem RdI.nil (A : Option Addr) : RdI k w A 0 [] := ⟨rfl, fun h => absurd h (by omega)⟩
theorem RdI.of_own {base : Nat} {e : TypeId} {c : Nat} (h : w.ownsRow base e 1 (.slice A n c) n (zs.map (Value.int k))) : RdI k w A n zs := by
 have hl : zs.length = n := by simpa using h.1
 refine ⟨hl, fun hn => ?_⟩
 obtain ⟨g, cap, hv, _, hlt⟩ := h.form hn
 have hA : A = some ⟨g, 0, none⟩ := by injection hv
 subst hA
 refine ⟨g, 0, rfl, hlt, fun j hj => ?_⟩
 have hj' : j < zs.length := by omega
 have := h.cells (g := g) rfl j (Value.int k (zs.getD j 0)) (by simp [hj'])
 rw [Addr.add_mid] at this
 exact this
end

/-- An owned row's value is a slice value of its length. -/
theorem own_slice {w : World} {base : Nat} {e : TypeId} {size : Nat} {v : Value} {n : Nat} {xs : List Value} (h : w.ownsRow base e size v n xs) :
  ∃ A c, v = .slice A n c ∧ n ≤ c := by
 rcases h.2 with ⟨rfl, rfl⟩ | ⟨g, cap, cur, rfl, _, _, h2, _⟩
 ·exact ⟨_, _, rfl, Nat.le_refl _⟩
 ·exact ⟨_, _, rfl, h2⟩

theorem grown_put (w : World) (p : Addr) (u : Value) : w.grownBy (w.setCell p u) (some p.block) := ⟨rfl, rfl, rfl, by simp, fun k _ hk => Below.heap_setCell w p u k (fun e => hk (by rw [e]))⟩
theorem below_chain {a w w' : World} (h : Below a.heap.size a w) (hb : Below w.heap.size w w') : Below a.heap.size a w' := h.trans (hb.mono h.size)

theorem bl_ag {a w w' : World} {o : Obj} (h : Below a.heap.size a w) (hg : (w.alloc o).grownBy w' (some w.heap.size)) : Below a.heap.size a w' :=
 (h.alloc h.size o).grown hg (by have := h.size; simp; omega) (fun k hk => by injection hk with hk; have := h.size; omega)
theorem bl_n {a w w' : World} (h : Below a.heap.size a w) (hg : w.grownBy w' none) : Below a.heap.size a w' := h.grown hg h.size (fun k hk => by cases hk)
theorem bl_g {a w w' : World} {g : Nat} (h : Below a.heap.size a w) (hg : w.grownBy w' (some g)) (hr : a.heap.size ≤ g) : Below a.heap.size a w' := h.grown hg h.size (fun k hk => by injection hk with hk; omega)
end Go.Proofs.YtffalfacakdhkaaGreatDoor
namespace Go.Proofs.YtffalfacakdhkaaGreatDoor
open Go.RowKit
set_option linter.unusedVariables false

theorem rd_take {k : IntKind} {w : World} {A : Option Addr} {n : Nat} {zs : List Int} (h : RdI k w A n zs) (p : Nat) (hp : p ≤ n) : RdI k w A p (zs.take p) := by
 refine ⟨by rw [List.length_take, h.1]; omega, fun hn => ?_⟩
 obtain ⟨b, off, rfl, hlt, hc⟩ := h.2 (by omega)
 refine ⟨b, off, rfl, hlt, fun j hj => ?_⟩
 rw [hc j (by omega)]
 simp [hj]
end Go.Proofs.YtffalfacakdhkaaGreatDoor
namespace Go.Proofs.YtffalfacakdhkaaGreatDoor
open Go.RowKit
set_option linter.unusedVariables false

section
variable {P : Program} {ops : Array Oper} {Q : Exit → Act → World → Prop} {es : List Nat} {S : Nat → World → Prop}

/-- How many of those that act are done. -/
def doneOf (es : List Nat) (listed : Array Bool) : Nat := (es.filter fun e => listed.getD e false).length
/-- Does e wait for i by an edge of its own? -/
def waitsFor (ops : Array Oper) (i e : Nat) : Bool := match ops[e]? with
 | some o => o.after.any fun x => Region.binds .any x && x.on == i
 | none => false
def lateOf (ops : Array Oper) (es : List Nat) (i : Nat) : Nat := (es.filter fun e => !waitsFor ops i e).length

/-- Whatever order is picked from here on, behind every operation what is said of its stage holds. -/
def wpAnyT (P : Program) (ops : Array Oper) (Q : Exit → Act → World → Prop) (es : List Nat) (S : Nat → World → Prop) : Nat → Array Bool → Act → World → Prop
 | 0, listed, a, w => Region.ready .any ops listed = [] ∧ Q .normal a w
 | fuel + 1, listed, a, w =>
  (Region.ready .any ops listed = [] → Q .normal a w) ∧
  ∀ i ∈ Region.ready .any ops listed, wpOp P ops Q i (fun a' w' => S (doneOf es (listed.setIfInBounds i true)) w' ∧ wpAnyT P ops Q es S fuel (listed.setIfInBounds i true) a' w') a w
theorem wpAny_of_T : ∀ (fuel : Nat) (listed : Array Bool) (a : Act) (w : World), wpAnyT P ops Q es S fuel listed a w → wpAny P .any ops Q fuel listed a w
 | 0, _, _, _, h => h
 | fuel + 1, _, _, _, h => ⟨h.1, fun i hi => wpOp_mono (fun a' w' h' => wpAny_of_T fuel _ a' w' h'.2) (h.2 i hi)⟩

theorem doneOf_mono (listed : Array Bool) (j : Nat) : doneOf es listed ≤ doneOf es (listed.setIfInBounds j true) := by
 unfold doneOf
 induction es with
 | nil => simp
 | cons e es ih =>
  simp only [List.filter_cons]
  by_cases h : listed.getD e false = true
  ·rw [if_pos h, if_pos (getD_set_true h)]; simpa using ih
  ·rw [if_neg h]
   split
   ·simp only [List.length_cons]; omega
   ·exact ih
theorem doneOf_le (listed : Array Bool) (i : Nat) (h : ∀ e ∈ es, waitsFor ops i e = true → listed.getD e false = false) : doneOf es listed ≤ lateOf ops es i := by
 unfold doneOf lateOf
 induction es with
 | nil => simp
 | cons e es ih =>
  have ih' := ih (fun x hx => h x (List.mem_cons_of_mem _ hx))
  simp only [List.filter_cons]
  by_cases hw : waitsFor ops i e = true
  ·rw [if_neg (by rw [h e (by simp) hw]; simp), if_neg (by rw [hw]; simp)]; exact ih'
  ·have hw' : waitsFor ops i e = false := by simpa using hw
   rw [if_pos (show (!waitsFor ops i e) = true by rw [hw']; rfl)]
   split
   ·simp only [List.length_cons]; omega
   ·simp only [List.length_cons]; omega

/-- The worlds that an operation may meet from stage k to stage m. -/
def Mid (S : Nat → World → Prop) (k m : Nat) (w : World) : Prop := ∃ j, k ≤ j ∧ j ≤ m ∧ S j w

theorem wpAnyT_first {i : Nat} {oi : Oper} {v : Value} (hi : ops[i]? = some oi) (hsel : ∀ (j : Nat) (o : Oper) cs b, ops[j]? = some o → o.op ≠ .select cs b)
  (hQ : ∀ c a w, Q (.panic c) (a.put oi.dst v) w → Q (.panic c) a w) (hie : i ∉ es) (k : Nat) :
  ∀ (fuel : Nat) (listed : Array Bool) (a : Act) (w : World),
   (∀ j oj, ops[j]? = some oj → j ≠ i → listed.getD j true = false → (∀ e ∈ oj.after, Region.binds .any e = true → e.on ≠ i) → oi.apart ops oj = true) →
   (∀ e ∈ es, waitsFor ops i e = true → listed.getD e false = false) → k ≤ doneOf es listed →
   i ∈ Region.ready .any ops listed → YieldsIf P ops (Mid S k (lateOf ops es i)) oi v a → S (doneOf es listed) w →
   wpAnyT P ops Q es S fuel (listed.setIfInBounds i true) (a.put oi.dst v) w → wpAnyT P ops Q es S (fuel + 1) listed a w := by
 have hdone : ∀ listed : Array Bool, doneOf es (listed.setIfInBounds i true) = doneOf es listed := by
  intro listed
  unfold doneOf
  congr 1
  apply List.filter_congr
  intro e he
  rw [getD_set_ne false (by rintro rfl; exact hie he)]
 intro fuel
 induction fuel with
 | zero =>
  intro listed a w _ hinv hk hr hy hS H
  refine ⟨fun h => (by rw [h] at hr; cases hr), fun j hj => ?_⟩
  by_cases hji : j = i
  ·subst hji; exact hy.wpOp hi ⟨_, hk, doneOf_le listed j hinv, hS⟩ ⟨by rw [hdone]; exact hS, H⟩
  ·have := ready_mono hj hji
   rw [H.1] at this
   cases this
 | succ fuel ih =>
  intro listed a w hfree hinv hk hr hy hS H
  refine ⟨fun h => (by rw [h] at hr; cases hr), fun j hj => ?_⟩
  by_cases hji : j = i
  ·subst hji; exact hy.wpOp hi ⟨_, hk, doneOf_le listed j hinv, hS⟩ ⟨by rw [hdone]; exact hS, H⟩
  ·have h1 := H.2 j (ready_mono hj hji)
   obtain ⟨hjun, oj, hoj, hall⟩ := mem_ready.1 hj
   have hnot : ∀ e ∈ oj.after, Region.binds .any e = true → e.on ≠ i := fun e he hb heq => by
    have h1 := hall e he hb
    have h0 := (mem_ready.1 hr).1
    rw [heq] at h1
    rcases Nat.lt_or_ge i listed.size with h' | h'
    ·simp [h'] at h0 h1; rw [h0] at h1; cases h1
    ·simp [Array.getElem?_eq_none h'] at h1
   have h2 := wpOp_putIf hoj (hfree j oj hoj hji hjun hnot) (fun cs b => hsel i oi cs b hi) (fun cs b => hsel j oj cs b hoj) hQ hy h1
   have hfree' : ∀ k ok, ops[k]? = some ok → k ≠ i → (listed.setIfInBounds j true).getD k true = false →
     (∀ e ∈ ok.after, Region.binds .any e = true → e.on ≠ i) → oi.apart ops ok = true := fun k ok hk hki hun hno => by
    refine hfree k ok hk hki ?_ hno
    by_cases hjk : j = k
    ·subst hjk; exact hjun
    ·rw [getD_set_ne true hjk] at hun; exact hun
   have hinv' : ∀ e ∈ es, waitsFor ops i e = true → (listed.setIfInBounds j true).getD e false = false := fun e he hw => by
    by_cases hje : j = e
    ·subst hje
     unfold waitsFor at hw
     rw [hoj] at hw
     obtain ⟨x, hx, hb⟩ := Array.any_eq_true'.1 hw
     simp only [Bool.and_eq_true, beq_iff_eq] at hb
     exact absurd hb.2 (hnot x hx hb.1)
    ·rw [getD_set_ne false hje]; exact hinv e he hw
   refine wpOp_mono (fun a' w' h3 => ?_) h2
   obtain ⟨h31, h32, h33⟩ := h3
   have hcomm : (listed.setIfInBounds i true).setIfInBounds j true = (listed.setIfInBounds j true).setIfInBounds i true := by rw [Array.setIfInBounds_comm _ _ hji]
   rw [hcomm] at h32 h33
   rw [hdone] at h32
   exact ⟨h32, ih (listed.setIfInBounds j true) a' w' hfree' hinv' (Nat.le_trans hk (doneOf_mono listed j)) (ready_mono hr (Ne.symm hji)) h31 h32 h33⟩

end

section
variable {P : Program} {l : List Oper} {Q : Exit → Act → World → Prop} {S : Nat → World → Prop}

/-- The walk of one order, from stage k on: 'some m': the operation only reads, and may come up till stage m; 'none': it acts. -/
def wpQs (P : Program) (l : List Oper) (Q : Exit → Act → World → Prop) (S : Nat → World → Prop) : List (Oper × Option Nat) → Nat → Act → World → Prop
 | [], _, a, w => Q .normal a w
 | (o, some m) :: r, k, a, w => ∃ v, YieldsIf P l.toArray (Mid S k m) o v a ∧ wpQs P l Q S r k (a.put o.dst v) w
 | (o, none) :: r, k, a, w => wpList P l.toArray (Exit.then (fun a' w' => S (k + 1) w' ∧ wpQs P l Q S r (k + 1) a' w') Q) [o] a w

/-- Those that act. -/
def actors : List (Nat × Option Nat) → List Nat
 | [] => []
 | (i, none) :: r => i :: actors r
 | (_, some _) :: r => actors r

/-- Is this an order in which each that only reads may be taken first, and each that acts stands alone? -/
def okOrd (ops : Array Oper) (es : List Nat) : List (Nat × Option Nat) → Nat → Array Bool → Bool
 | [], _, listed => (Region.ready .any ops listed).isEmpty
 | (i, some m) :: r, k, listed => Region.free .any ops listed i && (Region.ready .any ops listed).contains i && decide (i ∉ es) && decide (lateOf ops es i ≤ m) && decide (doneOf es listed = k) &&
   es.all (fun e => !waitsFor ops i e || !listed.getD e false) && okOrd ops es r k (listed.setIfInBounds i true)
 | (i, none) :: r, k, listed => (Region.ready .any ops listed == [i]) && decide (doneOf es (listed.setIfInBounds i true) = k + 1) && okOrd ops es r (k + 1) (listed.setIfInBounds i true)

theorem upon_then {o : Oper} {a : Act} {K K' : Act → World → Prop} {w : World} (h : o.wp P a w K (Exit.then K' Q)) : o.wp P a w K Q := by
 unfold Oper.wp Oper.upon at *
 generalize (execOp a.eval o).run P w = r at *
 split <;> simp_all [Exit.then, LetsOut]

theorem wpOp_of_list {ops : Array Oper} {i : Nat} {o : Oper} {K : Act → World → Prop} {a : Act} {w : World} (ho : ops[i]? = some o) (h : wpList P ops (Exit.then K Q) [o] a w) : wpOp P ops Q i K a w := by
 unfold wpOp
 simp only [ho]
 unfold wpList at h
 split at h
 ·rename_i hw
  rw [if_pos hw]
  rcases h with h | ⟨h1, h2⟩
  ·exact .inl (upon_then (Oper.wp_mono (fun _ _ h => h) h))
  ·exact .inr ⟨h1, h2⟩
 ·rename_i hw
  rw [if_neg hw]
  exact h

theorem getElem?_of_ready {ops : Array Oper} {i : Nat} {listed : Array Bool} (h : i ∈ Region.ready .any ops listed) : ∃ o, ops[i]? = some o := by
 obtain ⟨_, o, ho, _⟩ := mem_ready.1 h
 exact ⟨o, ho⟩
theorem YieldsIf.sub {ops : Array Oper} {A B : World → Prop} {o : Oper} {v : Value} {a : Act} (h : YieldsIf P ops A o v a) (hs : ∀ w, B w → A w) : YieldsIf P ops B o v a :=
 h.imp (fun ⟨h1, h2⟩ => ⟨h1, fun w hw => h2 w (hs w hw)⟩) id

theorem wpAnyT_of_qs (es : List Nat) (hs : Region.noSelect l.toArray = true) (hQ : ∀ c a t v w, Q (.panic c) (Act.put a (some t) v) w → Q (.panic c) a w) :
  ∀ (ix : List (Nat × Option Nat)) (k : Nat) (listed : Array Bool) (a : Act) (w : World), okOrd l.toArray es ix k listed = true → S k w → doneOf es listed = k →
   wpQs P l Q S (ix.map fun p => (l.getD p.1 default, p.2)) k a w → wpAnyT P l.toArray Q es S ix.length listed a w
 | [], k, listed, a, w, hok, hS, _, h => by
  simp only [okOrd, List.isEmpty_iff] at hok
  exact ⟨hok, h⟩
 | (i, some m) :: r, k, listed, a, w, hok, hS, hd, h => by
  simp only [okOrd, Bool.and_eq_true, decide_eq_true_eq] at hok
  obtain ⟨⟨⟨⟨⟨⟨h1, h2⟩, h3⟩, h4⟩, h5⟩, h6⟩, h7⟩ := hok
  have h2' : i ∈ Region.ready .any l.toArray listed := by simpa using h2
  obtain ⟨o, ho⟩ := getElem?_of_ready h2'
  have ho' : l.getD i default = o := by simpa [List.getD] using congrArg (·.getD default) ho
  simp only [List.map_cons, wpQs, ho'] at h
  obtain ⟨v, hy, hr⟩ := h
  have hinv : ∀ e ∈ es, waitsFor l.toArray i e = true → listed.getD e false = false := fun e he hw => by
   have := List.all_eq_true.1 h6 e he
   simpa [hw] using this
  have hdone : doneOf es (listed.setIfInBounds i true) = k := by
   rw [← hd]
   unfold doneOf
   congr 1
   apply List.filter_congr
   intro e he
   rw [getD_set_ne false (by rintro rfl; exact h3 he)]
  exact wpAnyT_first ho (Region.noSelect_spec hs) (fun c a w => (by cases o.dst with | none => exact fun h => h | some t => exact hQ c a t v w)) h3 k _ _ _ _ (Region.free_spec ho h1) hinv (by omega) h2'
   (YieldsIf.sub hy (fun w ⟨j, hj1, hj2, hj3⟩ => ⟨j, hj1, by omega, hj3⟩)) (by rw [hd]; exact hS) (wpAnyT_of_qs es hs hQ r k _ _ _ h7 hS hdone hr)
 | (i, none) :: r, k, listed, a, w, hok, hS, hd, h => by
  simp only [okOrd, Bool.and_eq_true, beq_iff_eq, decide_eq_true_eq] at hok
  obtain ⟨⟨h1, h2⟩, h3⟩ := hok
  obtain ⟨o, ho⟩ := getElem?_of_ready (i := i) (by rw [h1]; simp)
  have ho' : l.getD i default = o := by simpa [List.getD] using congrArg (·.getD default) ho
  simp only [List.map_cons, wpQs, ho'] at h
  refine ⟨fun h0 => (by rw [h1] at h0; cases h0), fun j hj => ?_⟩
  rw [h1] at hj
  obtain rfl : j = i := by simpa using hj
  exact wpOp_mono (fun a' w' ⟨hS', hr⟩ => ⟨by rw [h2]; exact hS', wpAnyT_of_qs es hs hQ r (k + 1) _ a' w' h3 hS' h2 hr⟩) (wpOp_of_list ho h)

/-- The beginning. -/
theorem wp_region_qs {id : Nat} {a : Act} {w : World} (S : Nat → World → Prop) (ix : List (Nat × Option Nat)) (hm : P.follows .mixedOrders = true) (hlen : ix.length = l.toArray.size)
  (hok : okOrd l.toArray (actors ix) ix 0 (Array.replicate l.toArray.size false) = true) (hd : doneOf (actors ix) (Array.replicate l.toArray.size false) = 0) (hs : Region.noSelect l.toArray = true)
  (hQ : ∀ c a t v w, Q (.panic c) (Act.put a (some t) v) w → Q (.panic c) a w)
  (hS : S 0 w.drew) (h : wpQs P l Q S (ix.map fun p => (l.getD p.1 default, p.2)) 0 a w.drew) : (Code.region id l.toArray true).wp P Q a w :=
 wp_region_any hm (wpAny_of_T _ _ _ _ (by rw [← hlen]; exact wpAnyT_of_qs (actors ix) hs hQ ix 0 _ a _ (by rw [hlen]; exact hok) hS (by rw [hlen]; exact hd) h))

theorem qs_nil {k : Nat} {a : Act} {w : World} (h : Q .normal a w) : wpQs P l Q S [] k a w := h
/-- At one stage alone. -/
theorem qs_now {o : Oper} {r : List (Oper × Option Nat)} {k : Nat} {a : Act} {w : World} {v : Value} (hw : Region.wanted o (yielded l.toArray a.tmps) = true)
  (hv : ∀ w', S k w' → (execOp a.eval o).run P w' = .ok (.value v) w') (h : wpQs P l Q S r k (a.put o.dst v) w) : wpQs P l Q S ((o, some k) :: r) k a w :=
 ⟨v, .inl ⟨hw, fun w' ⟨j, h1, h2, h3⟩ => hv w' (by
  obtain rfl : j = k := by omega
  exact h3)⟩, h⟩
/-- At whatever stage. -/
theorem qs_run {o : Oper} {r : List (Oper × Option Nat)} {k m : Nat} {a : Act} {w : World} {v : Value} (hw : Region.wanted o (yielded l.toArray a.tmps) = true)
  (hv : ∀ j w', S j w' → (execOp a.eval o).run P w' = .ok (.value v) w') (h : wpQs P l Q S r k (a.put o.dst v) w) : wpQs P l Q S ((o, some m) :: r) k a w :=
 ⟨v, .inl ⟨hw, fun w' ⟨j, _, _, h3⟩ => hv j w' h3⟩, h⟩
theorem qs_skip {o : Oper} {r : List (Oper × Option Nat)} {k m : Nat} {a : Act} {w : World} (hw : Region.wanted o (yielded l.toArray a.tmps) = false)
  (h : wpQs P l Q S r k (a.put o.dst undef) w) : wpQs P l Q S ((o, some m) :: r) k a w := ⟨undef, .inr ⟨hw, rfl⟩, h⟩
theorem qs_act {o : Oper} {r : List (Oper × Option Nat)} {k : Nat} {a : Act} {w : World} (h : wpList P l.toArray (Exit.then (fun a' w' => S (k + 1) w' ∧ wpQs P l Q S r (k + 1) a' w') Q) [o] a w) :
  wpQs P l Q S ((o, none) :: r) k a w := h
/-- A whole row is loaded. -/
theorem qs_row {o : Oper} {r : List (Oper × Option Nat)} {k m : Nat} {a : Act} {w : World} (hw : Region.wanted o (yielded l.toArray a.tmps) = true) (ty : TypeId) (x : Operand) (ho : o.op = .load ty x)
  (b off : Nat) (hx : a.eval x = .pointer (some ⟨b, off, none⟩)) (cs : List Value) (d : TypeDesc) (hS : ∀ j w, k ≤ j → j ≤ m → S j w → w.rangeAt b off cs) (hu : P.underlying ty = some d) (hd : d.isRow = true) (hi : (P.info? ty).map (·.size) = some cs.length)
  (h : wpQs P l Q S r k (a.put o.dst (.agg cs.toArray)) w) : wpQs P l Q S ((o, some m) :: r) k a w :=
 ⟨_, yieldsIf_load_mid hw ty x ho b off hx cs d (fun w ⟨j, h1, h2, h3⟩ => hS j w h1 h2 h3) hu hd hi, h⟩
end
end Go.Proofs.YtffalfacakdhkaaGreatDoor
namespace Go.Proofs.YtffalfacakdhkaaGreatDoor
theorem qs_mid {P : Program} {l : List Oper} {Q : Exit → Act → World → Prop} {S : Nat → World → Prop} {o : Oper} {r : List (Oper × Option Nat)} {k m : Nat} {a : Act} {w : World} {v : Value} (hw : Region.wanted o (yielded l.toArray a.tmps) = true)
  (hv : ∀ j w', k ≤ j → j ≤ m → S j w' → (execOp a.eval o).run P w' = .ok (.value v) w') (h : wpQs P l Q S r k (a.put o.dst v) w) : wpQs P l Q S ((o, some m) :: r) k a w :=
 ⟨v, .inl ⟨hw, fun w' ⟨j, h1, h2, h3⟩ => hv j w' h1 h2 h3⟩, h⟩
end Go.Proofs.YtffalfacakdhkaaGreatDoor
namespace Go.Proofs.YtffalfacakdhkaaGreatDoor
open Go.RowKit
set_option linter.unusedVariables false

theorem infoInt : (Tryz.prog.info? 3).map (fun i => (i.zero, i.size, i.bytes)) = some (some (.int .i64 0), 1, 8) := by kernel_rfl
theorem infoByte : (Tryz.prog.info? 5).map (fun i => (i.zero, i.size, i.bytes)) = some (some (.int .u8 0), 1, 1) := by kernel_rfl

section
variable {w : World} {ops : Array Oper} {rest : List Oper} {o : Oper} {a : Act} {Q : Exit → Act → World → Prop}
theorem mk_ints (hg : o.guard = none) (l c : Operand) (hop : o.op = Op.makeSlice 55 l c) (base n : Nat) (L C : Int) (hl : a.eval l = .int .i64 L) (hc : a.eval c = .int .i64 C) (hL : L = (n : Int)) (hC : C = (n : Int))
  (hn : n ≤ 35184372088832) (b4 : base ≤ w.heap.size)
  (hK : ∀ w', w'.ownsRow base 3 1 (.slice (some ⟨w.heap.size, 0, none⟩) n n) n (List.replicate n (.int .i64 0)) → w.grownBy w' none → wpList Tryz.prog ops Q rest (a.put o.dst (.slice (some ⟨w.heap.size, 0, none⟩) n n)) w') :
  wpList Tryz.prog ops Q (o :: rest) a w := by
 obtain ⟨i0, hi, hz0, hz1, hz2⟩ := info_parts infoInt
 refine wpList_make_full w hg l c _ hop base 3 i0 _ 1 Tryz.underlying55 hi hz0 hz1 .i64 .i64 L C n hl hc hL hC (by rw [hz2]; omega) (by unfold maxLen; omega) b4 (fun w' h1 h2 => hK w' ?_ h2)
 have e : (madeCells (Value.int .i64 0).cells (n * 1)).toList = List.replicate n (.int .i64 0) := by rw [Nat.mul_one]; exact toList_madeCells_one _ _
 rwa [e] at h1
theorem mk_bytes (hg : o.guard = none) (l c : Operand) (hop : o.op = Op.makeSlice 25 l c) (base n : Nat) (L C : Int) (hl : a.eval l = .int .i64 L) (hc : a.eval c = .int .i64 C) (hL : L = (n : Int)) (hC : C = (n : Int))
  (hn : n ≤ 35184372088832) (b4 : base ≤ w.heap.size)
  (hK : ∀ w', w'.ownsRow base 5 1 (.slice (some ⟨w.heap.size, 0, none⟩) n n) n (List.replicate n (.int .u8 0)) → w.grownBy w' none → wpList Tryz.prog ops Q rest (a.put o.dst (.slice (some ⟨w.heap.size, 0, none⟩) n n)) w') :
  wpList Tryz.prog ops Q (o :: rest) a w := by
 obtain ⟨i0, hi, hz0, hz1, hz2⟩ := info_parts infoByte
 refine wpList_make_full w hg l c _ hop base 5 i0 _ 1 Tryz.underlying25 hi hz0 hz1 .i64 .i64 L C n hl hc hL hC (by rw [hz2]; omega) (by unfold maxLen; omega) b4 (fun w' h1 h2 => hK w' ?_ h2)
 have e : (madeCells (Value.int .u8 0).cells (n * 1)).toList = List.replicate n (.int .u8 0) := by rw [Nat.mul_one]; exact toList_madeCells_one _ _
 rwa [e] at h1
end
end Go.Proofs.YtffalfacakdhkaaGreatDoor
namespace Go.Proofs.YtffalfacakdhkaaGreatDoor
open Go.RowKit
set_option linter.unusedVariables false

/-- A slice value that reads as the cells ys. -/
def Src (w : World) (size : Nat) (u : Value) (m : Nat) (ys : List Value) : Prop :=
 ∃ A c, u = .slice A m c ∧ ys.length = m * size ∧ (0 < m → ∃ b off, A = some ⟨b, off, none⟩ ∧ b < w.heap.size ∧ ∀ j y, ys[j]? = some y → w.cell? ⟨b, off + j, none⟩ = some y)

theorem Src.of_own {w : World} {base : Nat} {e : TypeId} {size : Nat} {v : Value} {n : Nat} {xs : List Value} (h : w.ownsRow base e size v n xs) : Src w size v n xs := by
 rcases h.2 with ⟨rfl, rfl⟩ | ⟨g, cap, cur, rfl, hb, hg, h2, h3, h4, h5⟩
 ·exact ⟨none, 0, rfl, h.1, fun h => absurd h (by omega)⟩
 ·refine ⟨_, cap, rfl, h.1, fun hn => ⟨g, 0, rfl, Blk.lt (t := e) (cs := cur) hg, fun j y hy => ?_⟩⟩
  have := h.cells (g := g) rfl j y hy
  rwa [Addr.add_mid] at this
theorem Src.keep {w w' : World} {size : Nat} {u : Value} {m : Nat} {ys : List Value} (h : Src w size u m ys) (hs : w.heap.size ≤ w'.heap.size) (hb : ∀ g, g < w.heap.size → w'.heap[g]? = w.heap[g]?) : Src w' size u m ys := by
 obtain ⟨A, c, e, hl, hc⟩ := h
 refine ⟨A, c, e, hl, fun hm => ?_⟩
 obtain ⟨b, off, ea, hlt, hcell⟩ := hc hm
 exact ⟨b, off, ea, by omega, fun j y hy => (World.cell?_of_block (a := ⟨b, off + j, none⟩) (hb b hlt)).trans (hcell j y hy)⟩
theorem Src.below {w w' : World} {size : Nat} {u : Value} {m : Nat} {ys : List Value} (h : Src w size u m ys) (hb : Below w.heap.size w w') : Src w' size u m ys := h.keep hb.size hb.block
section
variable {P : Program} {w : World} {ops : Array Oper} {rest : List Oper} {o : Oper} {a : Act} {Q : Exit → Act → World → Prop}
theorem app_src (hgd : o.guard = none) (s x : Operand) (t : TypeId) (ho : o.op = .call { callee := .builtin .append, args := #[s, x], argTypes := #[t, t] })
  (base : Nat) (e : TypeId) (z : Value) (size bytes : Nat) (ht : P.underlying t = some (.slice e)) (hi : (P.info? e).map (fun i => (i.zero, i.size, i.bytes)) = some (some z, size, bytes)) (hzs : z.cells.size = size) (hsz : 0 < size)
  (v : Value) (n : Nat) (xs : List Value) (hs : a.eval s = v) (hown : w.ownsRow base e size v n xs) (u : Value) (m : Nat) (ys : List Value) (hx : a.eval x = u) (hsrc : Src w size u m ys) (h1 : ∀ y ∈ ys, y.oneCell' = true)
  (h63 : n + m ≤ 35184372088832) (hbytes : (n + m) * bytes ≤ 140737488355328) (hbase : base ≤ w.heap.size)
  (h : ∀ v' w1, w1.ownsRow base e size v' (n + m) (xs ++ ys) → w.grownBy w1 v.ownBlock → (v'.ownBlock = v.ownBlock ∨ v'.ownBlock = some w.heap.size) → wpList P ops Q rest (a.put o.dst v') w1) : wpList P ops Q (o :: rest) a w := by
 obtain ⟨i0, hi', hz0, hz1, hz2⟩ := info_parts hi
 obtain ⟨A, c, rfl, hl, hc⟩ := hsrc
 rcases Nat.eq_zero_or_pos m with rfl | hm
 ·have hy : ys = [] := List.eq_nil_of_length_eq_zero (by omega)
  subst hy
  have hrun : ∀ ty, (Builtin.append_ #[t, t] ty #[v, .slice A 0 c]).run P w = .ok v w := by
   intro ty
   rcases hown.2 with ⟨rfl, rfl⟩ | ⟨g, cap, cur, rfl, _, _, hnc, _⟩
   ·cases A <;> simp [Builtin.append_, run_underlying ht, sizeOf, typeInfo, hi', Builtin.lenOf, Builtin.firstCells, loadCells, loadCellsFrom]
   ·cases A <;> simp [Builtin.append_, run_underlying ht, sizeOf, typeInfo, hi', Builtin.lenOf, Builtin.firstCells, hnc, storeCells, loadCells, loadCellsFrom]
  refine wpList_plain hgd fun K hK => ?_
  unfold Oper.wp execOp
  simp only [ho, resolve, invoke, builtin, Sem.run_bind, Sem.run_pure, Result.andThen_ok, List.map_toArray, List.map_cons, List.map_nil, hs, hx, hrun]
  exact hK _ _ (h v w (by simpa using hown) (World.grownBy.refl w _) (.inl rfl))
 ·obtain ⟨b, off, rfl, hlt, hcell⟩ := hc hm
  refine wpList_append_lies w hgd s x t ho base e i0 z size bytes ht hi' hz0 hz1 hz2 hzs hsz v n xs hs hown ⟨b, off, none⟩ m c ys hx hl (fun j y hy => by rw [Addr.add_mid]; exact hcell j y hy) h1 hm (by unfold maxLen; omega) hbytes hbase w.heap.size rfl ?_
  intro g cap w1 h1 h2 h3 h4
  exact h _ w1 h1 h2 (by
   simp only [Value.ownBlock]
   rcases h3 with h3 | h3
   ·exact .inl h3.symm
   ·exact .inr (by rw [h3]))
end
end Go.Proofs.YtffalfacakdhkaaGreatDoor
