/-
  make and append at this program's own types: numbers and bytes.
  append(dst, src...): onto a row of the call's own, from any slice that reads as a list of cells, nil and empty ones too.
-/
import Derived.Test.YtacidmamfkfipaaDoorChecked
import Derived.Test.YtacidmamfkfipaaDoorRegion
namespace Go.Proofs.YtacidmamfkfipaaDoor
open Go.RowKit
set_option linter.unusedVariables false

theorem infoInt : (Tryd.prog.info? 3).map (fun i => (i.zero, i.size, i.bytes)) = some (some (.int .i64 0), 1, 8) := by kernel_rfl
theorem infoByte : (Tryd.prog.info? 5).map (fun i => (i.zero, i.size, i.bytes)) = some (some (.int .u8 0), 1, 1) := by kernel_rfl

section
variable {w : World} {ops : Array Oper} {rest : List Oper} {o : Oper} {a : Act} {Q : Exit → Act → World → Prop}
theorem mk_ints (hg : o.guard = none) (l c : Operand) (hop : o.op = Op.makeSlice 45 l c) (base n : Nat) (L C : Int) (hl : a.eval l = .int .i64 L) (hc : a.eval c = .int .i64 C) (hL : L = (n : Int)) (hC : C = (n : Int))
    (hn : n ≤ 35184372088832) (b4 : base ≤ w.heap.size)
    (hK : ∀ w', w'.ownsRow base 3 1 (.slice (some ⟨w.heap.size, 0, none⟩) n n) n (List.replicate n (.int .i64 0)) → w.grownBy w' none → wpList Tryd.prog ops Q rest (a.put o.dst (.slice (some ⟨w.heap.size, 0, none⟩) n n)) w') :
    wpList Tryd.prog ops Q (o :: rest) a w := by
  obtain ⟨i0, hi, hz0, hz1, hz2⟩ := info_parts infoInt
  refine wpList_make_full w hg l c _ hop base 3 i0 _ 1 Tryd.underlying45 hi hz0 hz1 .i64 .i64 L C n hl hc hL hC (by rw [hz2]; omega) (by unfold maxLen; omega) b4 (fun w' h1 h2 => hK w' ?_ h2)
  have e : (madeCells (Value.int .i64 0).cells (n * 1)).toList = List.replicate n (.int .i64 0) := by rw [Nat.mul_one]; exact toList_madeCells_one _ _
  rwa [e] at h1
theorem mk_bytes (hg : o.guard = none) (l c : Operand) (hop : o.op = Op.makeSlice 22 l c) (base n : Nat) (L C : Int) (hl : a.eval l = .int .i64 L) (hc : a.eval c = .int .i64 C) (hL : L = (n : Int)) (hC : C = (n : Int))
    (hn : n ≤ 35184372088832) (b4 : base ≤ w.heap.size)
    (hK : ∀ w', w'.ownsRow base 5 1 (.slice (some ⟨w.heap.size, 0, none⟩) n n) n (List.replicate n (.int .u8 0)) → w.grownBy w' none → wpList Tryd.prog ops Q rest (a.put o.dst (.slice (some ⟨w.heap.size, 0, none⟩) n n)) w') :
    wpList Tryd.prog ops Q (o :: rest) a w := by
  obtain ⟨i0, hi, hz0, hz1, hz2⟩ := info_parts infoByte
  refine wpList_make_full w hg l c _ hop base 5 i0 _ 1 Tryd.underlying22 hi hz0 hz1 .i64 .i64 L C n hl hc hL hC (by rw [hz2]; omega) (by unfold maxLen; omega) b4 (fun w' h1 h2 => hK w' ?_ h2)
  have e : (madeCells (Value.int .u8 0).cells (n * 1)).toList = List.replicate n (.int .u8 0) := by rw [Nat.mul_one]; exact toList_madeCells_one _ _
  rwa [e] at h1
/-- 'append(s, x)': s a row of the call's own, x in a new block of one cell. -/
theorem app_int (hg : o.guard = none) (s x : Operand) (hop : o.op = .call { callee := .builtin .append, args := #[s, x], argTypes := #[45, 45] }) (base : Nat) (v : Value) (n : Nat) (zs : List Int) (B : Nat) (y : Int) (t : TypeId)
    (hs : a.eval s = v) (hown : w.ownsRow base 3 1 v n (zs.map (Value.int .i64))) (hx : a.eval x = .slice (some ⟨B, 0, none⟩) 1 1) (hb : Blk w B t #[.int .i64 y]) (hn : n ≤ 17592186044415) (hbase : base ≤ w.heap.size)
    (h : ∀ g cap w1, w1.ownsRow base 3 1 (.slice (some ⟨g, 0, none⟩) (n + 1) cap) (n + 1) ((zs ++ [y]).map (Value.int .i64)) → w.grownBy w1 v.ownBlock → (v.ownBlock = some g ∨ g = w.heap.size) → g < w1.heap.size →
      wpList Tryd.prog ops Q rest (a.put o.dst (.slice (some ⟨g, 0, none⟩) (n + 1) cap)) w1) : wpList Tryd.prog ops Q (o :: rest) a w := by
  obtain ⟨i0, hi, hz0, hz1, hz2⟩ := info_parts infoInt
  refine wpList_append_lies w hg s x _ hop base 3 i0 _ 1 8 Tryd.underlying45 hi hz0 hz1 hz2 rfl (by omega) v n _ hs hown ⟨B, 0, none⟩ 1 1 [.int .i64 y] hx rfl (fun j u hu => ?_) (by simp [Value.oneCell']) (by omega) (by unfold maxLen; omega) (by omega) hbase w.heap.size rfl ?_
  · rw [Addr.add_mid, Nat.zero_add, hb.cellq]; simpa using hu
  · intro g cap w1 h1 h2 h3 h4
    exact h g cap w1 (by simpa using h1) h2 h3 h4
end
end Go.Proofs.YtacidmamfkfipaaDoor
namespace Go.Proofs.YtacidmamfkfipaaDoor
open Go.RowKit
set_option linter.unusedVariables false

/-- A slice value that reads as the cells ys. -/
def Src (w : World) (size : Nat) (u : Value) (m : Nat) (ys : List Value) : Prop :=
  ∃ A c, u = .slice A m c ∧ ys.length = m * size ∧ (0 < m → ∃ b off, A = some ⟨b, off, none⟩ ∧ b < w.heap.size ∧ ∀ j y, ys[j]? = some y → w.cell? ⟨b, off + j, none⟩ = some y)

theorem Src.of_own {w : World} {base : Nat} {e : TypeId} {size : Nat} {v : Value} {n : Nat} {xs : List Value} (h : w.ownsRow base e size v n xs) : Src w size v n xs := by
  rcases h.2 with ⟨rfl, rfl⟩ | ⟨g, cap, cur, rfl, hb, hg, h2, h3, h4, h5⟩
  · exact ⟨none, 0, rfl, h.1, fun h => absurd h (by omega)⟩
  · refine ⟨_, cap, rfl, h.1, fun hn => ⟨g, 0, rfl, Blk.lt (t := e) (cs := cur) hg, fun j y hy => ?_⟩⟩
    have := h.cells (g := g) rfl j y hy
    rwa [Addr.add_mid] at this
theorem Src.of_rd {k : IntKind} {w : World} {A : Option Addr} {n c : Nat} {zs : List Int} (h : RdI k w A n zs) : Src w 1 (.slice A n c) n (zs.map (Value.int k)) := by
  refine ⟨A, c, rfl, by simp [h.1], fun hn => ?_⟩
  obtain ⟨b, off, e, hlt, hc⟩ := h.2 hn
  refine ⟨b, off, e, hlt, fun j y hy => ?_⟩
  have hj : j < zs.length := by
    rcases Nat.lt_or_ge j zs.length with h' | h'
    · exact h'
    · rw [List.getElem?_eq_none (by simpa using h')] at hy; cases hy
  have h1 := hc j (by rw [← h.1]; exact hj)
  rw [h1]
  simpa [hj] using hy
theorem Src.keep {w w' : World} {size : Nat} {u : Value} {m : Nat} {ys : List Value} (h : Src w size u m ys) (hs : w.heap.size ≤ w'.heap.size) (hb : ∀ g, g < w.heap.size → w'.heap[g]? = w.heap[g]?) : Src w' size u m ys := by
  obtain ⟨A, c, e, hl, hc⟩ := h
  refine ⟨A, c, e, hl, fun hm => ?_⟩
  obtain ⟨b, off, ea, hlt, hcell⟩ := hc hm
  exact ⟨b, off, ea, by omega, fun j y hy => (World.cell?_of_block (a := ⟨b, off + j, none⟩) (hb b hlt)).trans (hcell j y hy)⟩
theorem Src.below {w w' : World} {size : Nat} {u : Value} {m : Nat} {ys : List Value} (h : Src w size u m ys) (hb : Below w.heap.size w w') : Src w' size u m ys := h.keep hb.size hb.block
theorem Src.alloc {w : World} {size : Nat} {u : Value} {m : Nat} {ys : List Value} (h : Src w size u m ys) (o : Obj) : Src (w.alloc o) size u m ys := h.keep (by simp) (fun g hg => Below.heap_alloc w o g hg)

section
variable {P : Program} {w : World} {ops : Array Oper} {rest : List Oper} {o : Oper} {a : Act} {Q : Exit → Act → World → Prop}
theorem app_src (hgd : o.guard = none) (s x : Operand) (t : TypeId) (ho : o.op = .call { callee := .builtin .append, args := #[s, x], argTypes := #[t, t] })
    (base : Nat) (e : TypeId) (z : Value) (size bytes : Nat) (ht : P.underlying t = some (.slice e)) (hi : (P.info? e).map (fun i => (i.zero, i.size, i.bytes)) = some (some z, size, bytes)) (hzs : z.cells.size = size) (hsz : 0 < size)
    (v : Value) (n : Nat) (xs : List Value) (hs : a.eval s = v) (hown : w.ownsRow base e size v n xs) (u : Value) (m : Nat) (ys : List Value) (hx : a.eval x = u) (hsrc : Src w size u m ys) (h1 : ∀ y ∈ ys, y.oneCell' = true)
    (h63 : n + m ≤ 35184372088832) (hbytes : (n + m) * bytes ≤ 140737488355328) (hbase : base ≤ w.heap.size)
    (h : ∀ v' w1, w1.ownsRow base e size v' (n + m) (xs ++ ys) → w.grownBy w1 v.ownBlock → (v'.ownBlock = v.ownBlock ∨ v'.ownBlock = some w.heap.size) → wpList P ops Q rest (a.put o.dst v') w1) : wpList P ops Q (o :: rest) a w := by
  obtain ⟨i0, hi', hz0, hz1, hz2⟩ := info_parts hi
  obtain ⟨A, c, rfl, hl, hc⟩ := hsrc
  rcases Nat.eq_zero_or_pos m with rfl | hm
  · have hy : ys = [] := List.eq_nil_of_length_eq_zero (by omega)
    subst hy
    have hrun : ∀ ty, (Builtin.append_ #[t, t] ty #[v, .slice A 0 c]).run P w = .ok v w := by
      intro ty
      rcases hown.2 with ⟨rfl, rfl⟩ | ⟨g, cap, cur, rfl, _, _, hnc, _⟩
      · cases A <;> simp [Builtin.append_, run_underlying ht, sizeOf, typeInfo, hi', Builtin.lenOf, Builtin.firstCells, loadCells, loadCellsFrom]
      · cases A <;> simp [Builtin.append_, run_underlying ht, sizeOf, typeInfo, hi', Builtin.lenOf, Builtin.firstCells, hnc, storeCells, loadCells, loadCellsFrom]
    refine wpList_plain hgd fun K hK => ?_
    unfold Oper.wp execOp
    simp only [ho, resolve, invoke, builtin, Sem.run_bind, Sem.run_pure, Result.andThen_ok, List.map_toArray, List.map_cons, List.map_nil, hs, hx, hrun]
    exact hK _ _ (h v w (by simpa using hown) (World.grownBy.refl w _) (.inl rfl))
  · obtain ⟨b, off, rfl, hlt, hcell⟩ := hc hm
    refine wpList_append_lies w hgd s x t ho base e i0 z size bytes ht hi' hz0 hz1 hz2 hzs hsz v n xs hs hown ⟨b, off, none⟩ m c ys hx hl (fun j y hy => by rw [Addr.add_mid]; exact hcell j y hy) h1 hm (by unfold maxLen; omega) hbytes hbase w.heap.size rfl ?_
    intro g cap w1 h1 h2 h3 h4
    exact h _ w1 h1 h2 (by
      simp only [Value.ownBlock]
      rcases h3 with h3 | h3
      · exact .inl h3.symm
      · exact .inr (by rw [h3]))
end
end Go.Proofs.YtacidmamfkfipaaDoor
