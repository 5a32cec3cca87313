/-
  what this claim needs of: StW, StFk (written by cut.py).
-/
import Derived.Test.YtffalfacakdhkaaGreatDoorDStMapG
import Derived.WideKeyEntry
import Derived.Laws.Tables
import Derived.Test.YtffalfacakdhkaaGreatDoorDHuffSpec
namespace Go.Proofs.YtffalfacakdhkaaGreatDoor
open Go.RowKit Go.Maps
set_option linter.unusedVariables false
set_option linter.unusedSimpArgs false

/-- Nothing but the blocks of T has turned. -/
structure Tch (T : List Nat) (w w' : World) : Prop where
 os : w'.os = w.os
 tape : w'.tape = w.tape
 output : w'.output = w.output
 size : w.heap.size ≤ w'.heap.size
 block : ∀ k, k < w.heap.size → k ∉ T → w'.heap[k]? = w.heap[k]?
theorem Tch.refl (T : List Nat) (w : World) : Tch T w w := ⟨rfl, rfl, rfl, Nat.le_refl _, fun _ _ _ => rfl⟩
theorem Tch.trans {T : List Nat} {a b c : World} (h : Tch T a b) (k : Tch T b c) : Tch T a c :=
 ⟨k.os.trans h.os, k.tape.trans h.tape, k.output.trans h.output, Nat.le_trans h.size k.size, fun i hi hn => (k.block i (Nat.lt_of_lt_of_le hi h.size) hn).trans (h.block i hi hn)⟩
theorem Tch.mono {T T' : List Nat} {w w' : World} (h : Tch T w w') (hs : ∀ k ∈ T, k ∈ T') : Tch T' w w' := ⟨h.os, h.tape, h.output, h.size, fun k hk hn => h.block k hk (fun hm => hn (hs k hm))⟩
theorem Tch.grown {T : List Nat} {w w' : World} {row : Option Nat} (h : w.grownBy w' row) (hr : ∀ k, row = some k → k ∈ T ∨ w.heap.size ≤ k) : Tch T w w' :=
 ⟨h.os, h.tape, h.output, h.size, fun k hk hn => h.block k hk (fun e => by rcases hr k e.symm with h1 | h1; exact hn h1; omega)⟩
theorem Tch.below {T : List Nat} {w w' : World} (h : Below w.heap.size w w') : Tch T w w' := ⟨h.os, h.tape, h.output, h.size, fun k hk _ => h.block k hk⟩
theorem Tch.toBelow {T : List Nat} {w w' : World} {B : Nat} (h : Tch T w w') (hB : B ≤ w.heap.size) (hT : ∀ k ∈ T, B ≤ k) : Below B w w' := ⟨h.os, h.tape, h.output, h.size, fun k hk => h.block k (by omega) (fun hm => by have := hT k hm; omega)⟩
theorem Tch.nil {w w' : World} (h : Tch [] w w') : Below w.heap.size w w' := h.toBelow (Nat.le_refl _) (fun k hk => by cases hk)
theorem Tch.fresh {T T' : List Nat} {a b c : World} (h : Tch T a b) (k : Tch T' b c) (hT : ∀ i ∈ T', i ∈ T ∨ a.heap.size ≤ i) : Tch T a c :=
 ⟨k.os.trans h.os, k.tape.trans h.tape, k.output.trans h.output, Nat.le_trans h.size k.size, fun i hi hn => (k.block i (Nat.lt_of_lt_of_le hi h.size) (fun hm => by rcases hT i hm with h1 | h1; exact hn h1; omega)).trans (h.block i hi hn)⟩
theorem Blk.tch {w w' : World} {g : Nat} {t : TypeId} {cs : Array Value} {T : List Nat} (h : Blk w g t cs) (hb : Tch T w w') (hg : g ∉ T) : Blk w' g t cs := (hb.block g h.lt hg).trans h
section
variable {α β : Type} [DecidableEq α] {P : Program} {k : TypeId} {kv : α → Value} {kl : α → Lit} {ve : β → Value} {w w' : World} {b r : Nat} {M todo : List (α × β)}
theorem MapIs.tch {T : List Nat} (h : MapIs P k kv kl ve w b M) (hb : Tch T w w') (hg : b ∉ T) : MapIs P k kv kl ve w' b M := h.same (hb.block b h.lt hg)
theorem MapIs.below {B : Nat} (h : MapIs P k kv kl ve w b M) (hb : Below B w w') (hg : b < B) : MapIs P k kv kl ve w' b M := h.same (hb.block b hg)
theorem RangeIs.tch {T : List Nat} (h : RangeIs P k kv kl ve w b r M todo) (hb : Tch T w w') (hg : b ∉ T) (hr : r ∉ T) : RangeIs P k kv kl ve w' b r M todo := by
 have h1 := hb.block b h.owns.lt hg
 have h2 := hb.block r h.lt hr
 obtain ⟨es, left, done, ⟨e2, c, s, sn, c0, g1, g2, g3, g4, g5, g6⟩, rest⟩ := h
 exact ⟨es, left, done, ⟨e2, c, s, sn, c0, h1.trans g1, g2, g3, g4, h2.trans g5, g6⟩, rest⟩
/-- 'm[k] op= v': the entry is taken, then it is stored. -/
theorem MapIs.entry {t e : TypeId} (h : MapIs P k kv kl ve w b M) (K : Keyed P k) (KL : Go.WideMaps.KeyLaw P k) (ht : P.underlying t = some (.map k e)) {z : Value} (hz : ∀ u : World, (zeroValue e).run P u = .ok z u) (hn : M.length < maxLen) {x : α}
  (hinj : ∀ p ∈ M, kl p.1 = kl x → p.1 = x) (hx : keyOf P k (kv x) = some (kl x)) :
  ∃ v0 st w1, (Instr.mapEntry t (.map (some b)) (kv x)).run P w = .ok (.tuple #[v0, goInt st]) w1 ∧ w.grownBy w1 (some b) ∧
   ∀ (w2 : World) (v : β), w2.heap[b]? = w1.heap[b]? → ∃ w3, (Instr.entryStore t (.map (some b)) (goInt st) (ve v)).run P w2 = .ok () w3 ∧ MapIs P k kv kl ve w3 b (aput M x v) ∧ w2.grownBy w3 (some b) := by
 obtain ⟨es', hown, hp, hk, hu⟩ := h
 have hMap : MapIs P k kv kl ve w b M := ⟨es', hown, hp, hk, hu⟩
 obtain ⟨es, clock, hb, F, hs, hD⟩ := hown
 obtain ⟨v0, st, es1, clock1, h1, _, h3⟩ := Go.WideElems.entry_then_store KL ht hz hb F hx
 have hlt : b < w.heap.size := hMap.lt
 refine ⟨v0, st, _, h1, ⟨rfl, rfl, rfl, by simp [ChangeMaps.setBlock], fun i _ hi => ChangeMaps.heap_setBlock_other hb _ (fun e => hi (by rw [e]))⟩, fun w2 v hw2 => ?_⟩
 have hw2' : w2.heap[b]? = some (.map es1 clock1) := hw2.trans (ChangeMaps.heap_setBlock_same hb _)
 obtain ⟨es2, clock2, g1, g2⟩ := h3 w2 (ve v) hw2'
 obtain ⟨w', u1, u2, u3⟩ := hMap.update K ht hn hinj hx v
 rw [g2] at u1
 have e1 : ChangeMaps.setBlock w b (.map es2 clock2) = w' := by injection u1
 refine ⟨_, g1, u2.same ?_, ⟨rfl, rfl, rfl, by simp [ChangeMaps.setBlock], fun i _ hi => ChangeMaps.heap_setBlock_other hw2' _ (fun e => hi (by rw [e]))⟩⟩
 rw [← e1, ChangeMaps.heap_setBlock_same hb, ChangeMaps.heap_setBlock_same hw2']
end
section
variable {α β : Type} [DecidableEq α] {P : Program} {k : TypeId} {kv : α → Value} {kl : α → Lit} {ve : β → Value} {w : World} {b r : Nat} {M todo : List (α × β)} {ops : Array Oper} {rest : List Oper} {o : Oper} {a : Act} {Q : Exit → Act → World → Prop}
theorem wpl_mlook (hg : o.guard = none) (t : TypeId) (m x : Operand) (hop : o.op = .lookup t m x false) {e : TypeId} (K : Keyed P k) (ht : P.underlying t = some (.map k e)) (h : MapIs P k kv kl ve w b M) (hm : a.eval m = .map (some b)) (X : α) (hx : a.eval x = kv X)
  {z : Value} (hz : ∀ u : World, (zeroValue e).run P u = .ok z u) (hinj : ∀ p ∈ M, kl p.1 = kl X → p.1 = X) (hkey : keyOf P k (kv X) = some (kl X)) (hK : wpList P ops Q rest (a.put o.dst (((aget M X).map ve).getD z)) w) : wpList P ops Q (o :: rest) a w := by
 refine wpList_plain hg fun K' hK' => ?_
 have hrun := h.look K ht (hz w) hinj hkey
 unfold Oper.wp
 simp [execOp, hop, hm, hx, hrun, Result.andThen]
 exact hK' _ _ (by simpa using hK)
theorem wpl_mlookOk (hg : o.guard = none) (t : TypeId) (m x : Operand) (hop : o.op = .lookup t m x true) {e : TypeId} (K : Keyed P k) (ht : P.underlying t = some (.map k e)) (h : MapIs P k kv kl ve w b M) (hm : a.eval m = .map (some b)) (X : α) (hx : a.eval x = kv X)
  {z : Value} (hz : ∀ u : World, (zeroValue e).run P u = .ok z u) (hinj : ∀ p ∈ M, kl p.1 = kl X → p.1 = X) (hkey : keyOf P k (kv X) = some (kl X)) (hK : wpList P ops Q rest (a.put o.dst (.tuple #[((aget M X).map ve).getD z, .bool (aget M X).isSome])) w) : wpList P ops Q (o :: rest) a w := by
 refine wpList_plain hg fun K' hK' => ?_
 have hrun := h.lookOk K ht (hz w) hinj hkey
 unfold Oper.wp
 simp [execOp, hop, hm, hx, hrun, Result.andThen]
 exact hK' _ _ (by simpa using hK)
theorem wpl_mput (hg : o.guard = none) (t : TypeId) (m x v : Operand) (hop : o.op = .mapUpdate t m x v) {e : TypeId} (K : Keyed P k) (ht : P.underlying t = some (.map k e)) (h : MapIs P k kv kl ve w b M) (hn : M.length < maxLen) (hm : a.eval m = .map (some b)) (X : α) (hx : a.eval x = kv X) (V : β) (hv : a.eval v = ve V)
  (hinj : ∀ p ∈ M, kl p.1 = kl X → p.1 = X) (hkey : keyOf P k (kv X) = some (kl X)) (hK : ∀ w1, MapIs P k kv kl ve w1 b (aput M X V) → w.grownBy w1 (some b) → wpList P ops Q rest (a.put o.dst undef) w1) : wpList P ops Q (o :: rest) a w := by
 refine wpList_plain hg fun K' hK' => ?_
 obtain ⟨w', hrun, h1, h2⟩ := h.update K ht hn hinj hkey V
 unfold Oper.wp
 simp [execOp, hop, hm, hx, hv, hrun, Result.andThen]
 exact hK' _ _ (hK w' h1 h2.grown)
theorem wpl_mdel (hg : o.guard = none) (t : TypeId) (m x : Operand) (hop : o.op = .call { callee := .builtin .delete, args := #[m, x], argTypes := #[t, k] }) {e : TypeId} (K : Keyed P k) (ht : P.underlying t = some (.map k e)) (h : MapIs P k kv kl ve w b M) (hm : a.eval m = .map (some b)) (X : α) (hx : a.eval x = kv X)
  (hinj : ∀ p ∈ M, kl p.1 = kl X → p.1 = X) (hkey : keyOf P k (kv X) = some (kl X)) (hK : ∀ w1, MapIs P k kv kl ve w1 b (adel M X) → w.grownBy w1 (some b) → wpList P ops Q rest (a.put o.dst (.tuple #[])) w1) : wpList P ops Q (o :: rest) a w := by
 refine wpList_plain hg fun K' hK' => ?_
 obtain ⟨w', hrun, h1, h2⟩ := h.drop K ht hinj hkey o.type
 unfold Oper.wp
 simp [execOp, hop, resolve, invoke, builtin, hm, hx, hrun, Result.andThen]
 exact hK' _ _ (hK w' h1 h2.grown)
theorem wpl_mlen (hg : o.guard = none) (t : TypeId) (m : Operand) (hop : o.op = .call { callee := .builtin .len, args := #[m], argTypes := #[t] }) {e : TypeId} (ht : P.underlying t = some (.map k e)) (h : MapIs P k kv kl ve w b M) (hm : a.eval m = .map (some b))
  (hK : wpList P ops Q rest (a.put o.dst (.int .i64 M.length)) w) : wpList P ops Q (o :: rest) a w := by
 refine wpList_plain hg fun K' hK' => ?_
 have hrun := h.len ht o.type
 unfold Oper.wp
 simp [execOp, hop, resolve, invoke, builtin, hm, hrun, Result.andThen]
 exact hK' _ _ hK
theorem wpl_mrange (hg : o.guard = none) (t : TypeId) (m : Operand) (hop : o.op = .range t m) {e : TypeId} (K : Keyed P k) (ht : P.underlying t = some (.map k e)) (h : MapIs P k kv kl ve w b M) (hm : a.eval m = .map (some b))
  (hK : ∀ w1, RangeIs P k kv kl ve w1 b w.heap.size M M → w.grownBy w1 none → w1.heap.size = w.heap.size + 1 → wpList P ops Q rest (a.put o.dst (.pointer (some ⟨w.heap.size, 0, none⟩))) w1) : wpList P ops Q (o :: rest) a w := by
 refine wpList_plain hg fun K' hK' => ?_
 obtain ⟨w', hrun, h1, h2, h3⟩ := h.range K ht
 unfold Oper.wp
 simp [execOp, hop, hm, hrun, Result.andThen]
 exact hK' _ _ (hK w' h1 h2 h3)
theorem wpl_mnext (hg : o.guard = none) (it : Operand) (hop : o.op = .next it false) (K : Keyed P k) (h : RangeIs P k kv kl ve w b r M todo) (hit : a.eval it = .pointer (some ⟨r, 0, none⟩)) (hinj : ∀ p ∈ M, ∀ q ∈ M, kl p.1 = kl q.1 → p.1 = q.1)
  (hDone : todo = [] → wpList P ops Q rest (a.put o.dst (.tuple #[.bool false])) w)
  (hMore : ∀ p todo' w', todo.Perm (p :: todo') → RangeIs P k kv kl ve w' b r M todo' → w.grownBy w' (some r) → w'.heap.size = w.heap.size → (Instr.entry (.pointer (some ⟨r, 0, none⟩))).run P w' = .ok (.tuple #[kv p.1, ve p.2]) w' →
   wpList P ops Q rest (a.put o.dst (.tuple #[.bool true, kv p.1, ve p.2])) w') : wpList P ops Q (o :: rest) a w := by
 refine wpList_plain hg fun K' hK' => ?_
 unfold Oper.wp
 rcases h.next K hinj o.type with ⟨h0, hrun⟩ | ⟨p, todo', w', h1, hrun, h2, h3, h4, h5⟩
 ·simp [execOp, hop, hit, hrun, Result.andThen]
  exact hK' _ _ (hDone h0)
 ·simp [execOp, hop, hit, hrun, Result.andThen]
  exact hK' _ _ (hMore p todo' w' h1 h2 h3 h4 h5)
theorem wpl_mestore (hg : o.guard = none) (t : TypeId) (m s x : Operand) (hop : o.op = .entryStore t m s x) {X : α} {st : Int} (V : β) (hm : a.eval m = .map (some b)) (hs : a.eval s = .int .i64 st) (hx : a.eval x = ve V)
  (h : ∀ (w2 : World) (v : β), w2.heap[b]? = w.heap[b]? → ∃ w3, (Instr.entryStore t (.map (some b)) (.int .i64 st) (ve v)).run P w2 = .ok () w3 ∧ MapIs P k kv kl ve w3 b (aput M X v) ∧ w2.grownBy w3 (some b))
  (hK : ∀ w1, MapIs P k kv kl ve w1 b (aput M X V) → w.grownBy w1 (some b) → wpList P ops Q rest (a.put o.dst undef) w1) : wpList P ops Q (o :: rest) a w := by
 refine wpList_plain hg fun K' hK' => ?_
 obtain ⟨w3, hrun, h1, h2⟩ := h w V rfl
 unfold Oper.wp
 simp [execOp, hop, hm, hs, hx, hrun, Result.andThen]
 exact hK' _ _ (hK w3 h1 h2)
end
section
variable {P : Program} {w : World} {ops : Array Oper} {rest : List Oper} {o : Oper} {a : Act} {Q : Exit → Act → World → Prop}
/-- A struct that came as a value is given a block. -/
theorem wpl_box (hg : o.guard = none) (t : TypeId) (x : Operand) (hop : o.op = .box t x) (cs : Array Value) (hx : a.eval x = .agg cs)
  (hK : ∀ w1, Blk w1 w.heap.size t cs → w.grownBy w1 none → w1.heap.size = w.heap.size + 1 → wpList P ops Q rest (a.put o.dst (.pointer (some ⟨w.heap.size, 0, none⟩))) w1) : wpList P ops Q (o :: rest) a w := by
 refine wpList_plain hg fun K' hK' => ?_
 unfold Oper.wp execOp
 simp only [hop, Sem.run_bind, Instr.box, newVar, newRow, run_newObj_alloc, Sem.run_pure, Result.andThen_ok, hx]
 exact hK' _ _ (hK _ (Blk.made _ _ _) (World.grownBy_alloc w _ none) (by simp))
/-- A variable of its own. -/
theorem wpl_alloc (hg : o.guard = none) (t : TypeId) (hop : o.op = .alloc t) {z : Value} (hz : ∀ u : World, (zeroValue t).run P u = .ok z u) (m : Nat) (hm : z.cells.size = m)
  (hK : ∀ w1 cs, Blk w1 w.heap.size t cs → cs.size = m → w.grownBy w1 none → w1.heap.size = w.heap.size + 1 → wpList P ops Q rest (a.put o.dst (.pointer (some ⟨w.heap.size, 0, none⟩))) w1) : wpList P ops Q (o :: rest) a w := by
 refine wpList_plain hg fun K' hK' => ?_
 unfold Oper.wp execOp
 simp only [hop, Instr.alloc, Sem.run_bind, hz, newVar, newRow, run_newObj_alloc, Sem.run_pure, Result.andThen_ok]
 exact hK' _ _ (hK _ _ (Blk.made _ _ _) hm (World.grownBy_alloc w _ none) (by simp))
/-- .. with what stands in it. -/
theorem wpl_alloc_zero (hg : o.guard = none) (t : TypeId) (hop : o.op = .alloc t) {z : Value} (hz : ∀ u : World, (zeroValue t).run P u = .ok z u)
  (hK : ∀ w1, Blk w1 w.heap.size t z.cells → w.grownBy w1 none → w1.heap.size = w.heap.size + 1 → wpList P ops Q rest (a.put o.dst (.pointer (some ⟨w.heap.size, 0, none⟩))) w1) : wpList P ops Q (o :: rest) a w := by
 refine wpList_plain hg fun K' hK' => ?_
 unfold Oper.wp execOp
 simp only [hop, Instr.alloc, Sem.run_bind, hz, newVar, newRow, run_newObj_alloc, Sem.run_pure, Result.andThen_ok]
 exact hK' _ _ (hK _ (Blk.made _ _ _) (World.grownBy_alloc w _ none) (by simp))
/-- Part of a block is stored. -/
theorem wpl_put (hgd : o.guard = none) (ty : TypeId) (x y : Operand) (ho : o.op = .store ty x y) (g off : Nat) (vs : List Value) (hx : a.eval x = .pointer (some ⟨g, off, none⟩)) (hy : a.eval y = .agg vs.toArray)
  (t : TypeId) (cs : Array Value) (hb : Blk w g t cs) (hi : (P.info? ty).map (·.size) = some vs.length) (hm : off + vs.length ≤ cs.size) (h1 : ∀ v ∈ vs, v.oneCell' = true)
  (h : ∀ w1, Blk w1 g t (putAt cs off vs) → w.grownBy w1 (some g) → w1.heap.size = w.heap.size → wpList P ops Q rest (a.put o.dst undef) w1) : wpList P ops Q (o :: rest) a w := by
 refine wpList_store_mid hgd ty x y ho g off vs.toArray hx hy (hb.isThere off _ (by simpa using hm)) (by rw [hi]; simp) (by have := all_oneCell_toArray (one_arr h1); simpa using this) (h _ ?_ (grown_setCells _ w off).1 (grown_setCells _ w off).2)
 have := Blk.puts vs w cs off hb
 simpa using this
/-- A variable that is a whole block is written over. -/
theorem wpl_over (hgd : o.guard = none) (ty : TypeId) (x y : Operand) (ho : o.op = .store ty x y) (g : Nat) (vs : List Value) (hx : a.eval x = .pointer (some ⟨g, 0, none⟩)) (hy : a.eval y = .agg vs.toArray)
  (t : TypeId) (cs : Array Value) (hb : Blk w g t cs) (hi : (P.info? ty).map (·.size) = some vs.length) (hm : vs.length = cs.size) (h1 : ∀ v ∈ vs, v.oneCell' = true)
  (h : ∀ w1, Blk w1 g t vs.toArray → w.grownBy w1 (some g) → w1.heap.size = w.heap.size → wpList P ops Q rest (a.put o.dst undef) w1) : wpList P ops Q (o :: rest) a w := by
 refine wpl_put hgd ty x y ho g 0 vs hx hy t cs hb hi (by omega) h1 (fun w1 h2 => h w1 ?_)
 rw [putAt_all _ _ hm] at h2
 exact h2
end
theorem Blk.part {w : World} {g : Nat} {t : TypeId} {cs : List Value} (h : Blk w g t cs.toArray) (off : Nat) (vs : List Value) (hv : (cs.drop off).take vs.length = vs) : w.rangeAt g off vs := by
 intro j v hj
 rw [h.cellq]
 have hlt : j < vs.length := by
  rcases Nat.lt_or_ge j vs.length with h' | h'
  ·exact h'
  ·rw [List.getElem?_eq_none h'] at hj; cases hj
 rw [← hv, List.getElem?_take, if_pos hlt, List.getElem?_drop] at hj
 simpa using hj
theorem putAt_list (cs : Array Value) (o : Nat) (vs : List Value) (h : o + vs.length ≤ cs.size) : putAt cs o vs = (cs.toList.take o ++ vs ++ cs.toList.drop (o + vs.length)).toArray := by
 suffices hl : (putAt cs o vs).toList = cs.toList.take o ++ vs ++ cs.toList.drop (o + vs.length) by rw [← hl]
 apply List.ext_getElem?
 intro j
 rw [Array.getElem?_toList]
 rcases Nat.lt_or_ge j o with h1 | h1
 ·rw [putAt_out _ _ _ _ (.inl h1), List.append_assoc, List.getElem?_append_left (by simp; omega), List.getElem?_take_of_lt h1]
  simp
 ·rcases Nat.lt_or_ge j (o + vs.length) with h2 | h2
  ·have := putAt_in vs cs o (j - o) (by omega) h
   rw [show o + (j - o) = j by omega] at this
   rw [this, List.getElem?_append_left (by simp; omega), List.getElem?_append_right (by simp; omega)]
   congr 1
   simp
   omega
  ·rw [putAt_out _ _ _ _ (.inr h2), List.getElem?_append_right (by simp; omega), List.getElem?_drop]
   simp only [List.length_append, List.length_take, Array.length_toList, Array.getElem?_toList]
   congr 1
   omega
theorem fill_cons {place : Nat → Option (Nat × Nat)} {cells : Array Value} {i : Nat} {v : Value} {rest : List (Nat × Value)} (off : Nat) (vs : List Value) (hv : v.cells.toList = vs) (hp : place i = some (off, vs.length)) (hb : off + vs.length ≤ cells.size) :
  Instr.fill place cells ((i, v) :: rest) = Instr.fill place (putAt cells off vs) rest := by
 have hs : v.cells.size = vs.length := by rw [← hv]; simp
 have key : ∀ (l : List Value) (s : Nat) (cs : Array Value), (l.zipIdx s).foldl (fun cs (x : Value × Nat) => cs.setIfInBounds (off + x.2) x.1) cs = putAt cs (off + s) l := by
  intro l
  induction l with
  | nil => intro s cs; rfl
  | cons x l ih => intro s cs; rw [List.zipIdx_cons, List.foldl_cons, ih]; rfl
 rw [Instr.fill, hp]
 simp only [hs]
 rw [if_neg (by simp; omega)]
 have := key v.cells.toList 0 cells
 rw [hv, Nat.add_zero] at this
 rw [← this, ← hv]
 simp only [← Array.foldl_toList, Array.toList_zipIdx]
end Go.Proofs.YtffalfacakdhkaaGreatDoor
namespace Go.Proofs.YtffalfacakdhkaaGreatDoor
open Go.RowKit
set_option linter.unusedVariables false

/-- The operations that are taken ahead. -/
def listAll (pre : List (Nat × Nat)) (listed : Array Bool) : Array Bool := pre.foldl (fun L p => L.setIfInBounds p.1 true) listed
def okPre (ops : Array Oper) (es : List Nat) : List (Nat × Nat) → Array Bool → Bool
 | [], _ => true
 | (i, m) :: r, listed => Region.free .any ops listed i && (Region.ready .any ops listed).contains i && decide (i ∉ es) && decide (lateOf ops es i ≤ m) &&
   es.all (fun e => !waitsFor ops i e || !listed.getD e false) && okPre ops es r (listed.setIfInBounds i true)
section
variable {P : Program} {l : List Oper} {Q : Exit → Act → World → Prop} {S : Nat → World → Prop}
theorem wpAnyT_pre (es : List Nat) (hs : Region.noSelect l.toArray = true) (hQ : ∀ c a t v w, Q (.panic c) (Act.put a (some t) v) w → Q (.panic c) a w) (n : Nat) :
  ∀ (pre : List (Nat × Nat)) (listed : Array Bool) (a : Act) (w : World), okPre l.toArray es pre listed = true → S 0 w → doneOf es listed = 0 →
   wpQs P l (fun _ a' w' => S 0 w' → doneOf es (listAll pre listed) = 0 → wpAnyT P l.toArray Q es S n (listAll pre listed) a' w') S (pre.map fun p => (l.getD p.1 default, some p.2)) 0 a w → wpAnyT P l.toArray Q es S (pre.length + n) listed a w
 | [], listed, a, w, hok, hS, hd, h => by
  rw [List.length_nil, Nat.zero_add]
  exact h hS hd
 | (i, m) :: r, listed, a, w, hok, hS, hd, h => by
  simp only [okPre, Bool.and_eq_true, decide_eq_true_eq] at hok
  obtain ⟨⟨⟨⟨⟨h1, h2⟩, h3⟩, h4⟩, h6⟩, h7⟩ := hok
  have h2' : i ∈ Region.ready .any l.toArray listed := by simpa using h2
  obtain ⟨o, ho⟩ := getElem?_of_ready h2'
  have ho' : l.getD i default = o := by simpa [List.getD] using congrArg (·.getD default) ho
  simp only [List.map_cons, wpQs, ho'] at h
  obtain ⟨v, hy, hr⟩ := h
  have hinv : ∀ e ∈ es, waitsFor l.toArray i e = true → listed.getD e false = false := fun e he hw => by
   have := List.all_eq_true.1 h6 e he
   simpa [hw] using this
  have hdone : doneOf es (listed.setIfInBounds i true) = 0 := by
   rw [← hd]
   unfold doneOf
   congr 1
   apply List.filter_congr
   intro e he
   rw [getD_set_ne false (by rintro rfl; exact h3 he)]
  have e : ((i, m) :: r).length + n = (r.length + n) + 1 := by rw [List.length_cons]; omega
  rw [e]
  exact wpAnyT_first ho (Region.noSelect_spec hs) (fun c a w => (by cases o.dst with | none => exact fun h => h | some t => exact hQ c a t v w)) h3 0 _ _ _ _ (Region.free_spec ho h1) hinv (Nat.zero_le _) h2'
   (YieldsIf.sub hy (fun w ⟨j, hj1, hj2, hj3⟩ => ⟨j, hj1, by omega, hj3⟩)) (by rw [hd]; exact hS) (wpAnyT_pre es hs hQ n r _ _ _ h7 hS hdone hr)
/-- Two that act, behind what only reads. -/
theorem wp_region_two {id : Nat} {a : Act} {w : World} (S : Nat → World → Prop) (es : List Nat) (pre : List (Nat × Nat)) (i j : Nat) (ix iy : List (Nat × Option Nat)) (R : Value → World → Prop) (F : Act → Value → Act) (oi oj : Oper) (hm : P.follows .mixedOrders = true)
  (hlen : l.toArray.size = pre.length + (ix.length + 1)) (hlen2 : ix.length = iy.length)
  (hpre : okPre l.toArray es pre (Array.replicate l.toArray.size false) = true) (h0 : Region.ready .any l.toArray (listAll pre (Array.replicate l.toArray.size false)) = [i, j])
  (hd0 : doneOf es (Array.replicate l.toArray.size false) = 0)
  (hok : okOrd l.toArray es ix 1 ((listAll pre (Array.replicate l.toArray.size false)).setIfInBounds i true) = true) (hd : doneOf es ((listAll pre (Array.replicate l.toArray.size false)).setIfInBounds i true) = 1)
  (hok2 : okOrd l.toArray es iy 1 ((listAll pre (Array.replicate l.toArray.size false)).setIfInBounds j true) = true) (hd2 : doneOf es ((listAll pre (Array.replicate l.toArray.size false)).setIfInBounds j true) = 1)
  (hs : Region.noSelect l.toArray = true) (hoi : l.toArray[i]? = some oi) (hoj : l.toArray[j]? = some oj) (hS : S 0 w.drew)
  (h : wpQs P l (fun _ a1 w1 => HeldG (wpList P l.toArray (Exit.then (fun a2 w2 => S 1 w2 ∧ wpQs P l (fun e a' w' => e = .normal ∧ ∃ v, a' = F a v ∧ R v w') S (ix.map fun p => (l.getD p.1 default, p.2)) 1 a2 w2) (fun e a' w' => e = .normal ∧ ∃ v, a' = F a v ∧ R v w')) [oi] a1 w1) ∧
    HeldG (wpList P l.toArray (Exit.then (fun a2 w2 => S 1 w2 ∧ wpQs P l (fun e a' w' => e = .normal ∧ ∃ v, a' = F a v ∧ R v w') S (iy.map fun p => (l.getD p.1 default, p.2)) 1 a2 w2) (fun e a' w' => e = .normal ∧ ∃ v, a' = F a v ∧ R v w')) [oj] a1 w1))
   S (pre.map fun p => (l.getD p.1 default, some p.2)) 0 a w.drew)
  (H : ∀ v w', R v w' → Q .normal (F a v) w') : (Code.region id l.toArray true).wp P Q a w := by
 refine Code.wp_mono (Q := fun e a' w' => e = .normal ∧ ∃ v, a' = F a v ∧ R v w') ?_ ?_
 ·rintro e a' w' ⟨rfl, v, rfl, hR⟩
  exact H v w' hR
 refine wp_region_any hm (wpAny_of_T (es := es) (S := S) _ _ _ _ ?_)
 have hQ : ∀ c (b : Act) (t : Tmp) (v : Value) (w : World), (fun (e : Exit) (a' : Act) (w' : World) => e = .normal ∧ ∃ v, a' = F a v ∧ R v w') (.panic c) (Act.put b (some t) v) w → (fun (e : Exit) (a' : Act) (w' : World) => e = .normal ∧ ∃ v, a' = F a v ∧ R v w') (.panic c) b w := fun c b t v w h => by cases h.1
 rw [hlen] at *
 refine wpAnyT_pre es hs hQ (ix.length + 1) pre _ _ _ hpre hS hd0 ?_
 have key : ∀ a1 w1, (HeldG (wpList P l.toArray (Exit.then (fun a2 w2 => S 1 w2 ∧ wpQs P l (fun e a' w' => e = .normal ∧ ∃ v, a' = F a v ∧ R v w') S (ix.map fun p => (l.getD p.1 default, p.2)) 1 a2 w2) (fun e a' w' => e = .normal ∧ ∃ v, a' = F a v ∧ R v w')) [oi] a1 w1) ∧
    HeldG (wpList P l.toArray (Exit.then (fun a2 w2 => S 1 w2 ∧ wpQs P l (fun e a' w' => e = .normal ∧ ∃ v, a' = F a v ∧ R v w') S (iy.map fun p => (l.getD p.1 default, p.2)) 1 a2 w2) (fun e a' w' => e = .normal ∧ ∃ v, a' = F a v ∧ R v w')) [oj] a1 w1)) →
   (S 0 w1 → doneOf es (listAll pre (Array.replicate (pre.length + (ix.length + 1)) false)) = 0 → wpAnyT P l.toArray (fun e a' w' => e = .normal ∧ ∃ v, a' = F a v ∧ R v w') es S (ix.length + 1) (listAll pre (Array.replicate (pre.length + (ix.length + 1)) false)) a1 w1) := by
  rintro a1 w1 ⟨hi, hj⟩ _ _
  refine ⟨fun h => (by rw [h0] at h; cases h), fun k hk => ?_⟩
  rw [h0] at hk
  have hk' : k = i ∨ k = j := by simpa using hk
  rcases hk' with rfl | rfl
  ·exact wpOp_mono (fun a2 w2 hh => ⟨by rw [hd]; exact hh.1, wpAnyT_of_qs es hs hQ ix 1 _ _ _ hok hh.1 hd hh.2⟩) (wpOp_of_list hoi hi)
  ·rw [hlen2]
   rw [hlen2] at hok2 hd2
   exact wpOp_mono (fun a2 w2 hh => ⟨by rw [hd2]; exact hh.1, wpAnyT_of_qs es hs hQ iy 1 _ _ _ hok2 hh.1 hd2 hh.2⟩) (wpOp_of_list hoj hj)
 have mono : ∀ (ps : List (Oper × Option Nat)) (k : Nat) (Q1 Q2 : Exit → Act → World → Prop), (∀ p ∈ ps, p.2.isSome = true) → (∀ e a w, Q1 e a w → Q2 e a w) → ∀ a w, wpQs P l Q1 S ps k a w → wpQs P l Q2 S ps k a w := by
  intro ps
  induction ps with
  | nil => intro k Q1 Q2 _ h a w hh; exact h _ _ _ hh
  | cons p ps ih =>
   intro k Q1 Q2 hp h a w hh
   obtain ⟨o, m⟩ := p
   cases m with
   | none => have := hp _ (List.mem_cons_self ..); simp at this
   | some m =>
    obtain ⟨v, h1, h2⟩ := hh
    exact ⟨v, h1, ih k Q1 Q2 (fun p hp' => hp p (List.mem_cons_of_mem _ hp')) h _ _ h2⟩
 exact mono _ 0 _ _ (by intro p hp; obtain ⟨x, _, rfl⟩ := List.mem_map.1 hp; rfl) (fun _ a1 w1 hh => key a1 w1 hh) _ _ h
end
theorem toHeld {p : Prop} (h : p) : HeldG p := h
end Go.Proofs.YtffalfacakdhkaaGreatDoor
