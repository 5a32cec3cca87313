/-
  A slice of blocks that came in as an argument, opened: each block's kind and pieces.
-/
import Derived.Test.YtlhaehefhhcgaaaDoorIbE
import Derived.Test.YtlhaehefhhcgaaaDoorLawKit
import Derived.Deep.Slices
import Derived.ChangeArms
import Derived.Test.YtlhaehefhhcgaaaDoorInfB
namespace Go.Proofs.YtlhaehefhhcgaaaDoor
open Go.ChangeShapes Go.WideShapes Go.ChangeAt Go.RowKit Go.Deep
set_option linter.unusedVariables false
set_option linter.unusedSimpArgs false

structure Bk where
  k : Int
  A : Option Addr
  n : Nat
  c : Nat
  l : List Rp
instance : Inhabited Bk := ⟨⟨0, none, 0, 0, []⟩⟩
instance : Inhabited Rp := ⟨⟨0, 0, 0⟩⟩
def bkcell (b : Bk) : List Value := [.int .i64 b.k, .slice b.A b.n b.c]
def BkOk (w : World) (b : Bk) : Prop := PSrc w b.A b.n b.c b.l ∧ (∀ q ∈ b.l, q.fine) ∧ -9223372036854775808 ≤ b.k ∧ b.k ≤ 9223372036854775807
def BSrc (w : World) (A : Option Addr) (n c : Nat) (L : List Bk) : Prop := Src w 2 (.slice A n c) n (L.flatMap bkcell) ∧ ∀ b ∈ L, BkOk w b
theorem bcells_len (l : List Bk) : (l.flatMap bkcell).length = l.length * 2 := by
  induction l with
  | nil => rfl
  | cons p l ih => simp only [List.flatMap_cons, List.length_append, ih, List.length_cons, bkcell, List.length_nil]; omega
theorem bcells_get : ∀ (l : List Bk) (i : Nat) (p : Bk), l[i]? = some p → (l.flatMap bkcell)[i * 2]? = some (.int .i64 p.k) ∧ (l.flatMap bkcell)[i * 2 + 1]? = some (.slice p.A p.n p.c)
  | [], i, p, h => by simp at h
  | q :: l, 0, p, h => by
    obtain rfl : q = p := by simpa using h
    exact ⟨rfl, rfl⟩
  | q :: l, i + 1, p, h => by
    have ih := bcells_get l i p (by simpa using h)
    have e : ∀ k, ((q :: l).flatMap bkcell)[(i + 1) * 2 + k]? = (l.flatMap bkcell)[i * 2 + k]? := fun k => by
      rw [List.flatMap_cons, List.getElem?_append_right (by simp [bkcell]; omega)]
      congr 1
      simp [bkcell]; omega
    exact ⟨(e 0).trans ih.1, (e 1).trans ih.2⟩
theorem BSrc.len {w : World} {A : Option Addr} {n c : Nat} {l : List Bk} (h : BSrc w A n c l) : l.length = n := by
  obtain ⟨⟨_, _, _, hl, _⟩, _⟩ := h
  rw [bcells_len] at hl
  omega
theorem BSrc.below {w w' : World} {A : Option Addr} {n c : Nat} {l : List Bk} (h : BSrc w A n c l) (hb : Below w.heap.size w w') : BSrc w' A n c l := ⟨Src.below h.1 hb, fun b hbm => ⟨(h.2 b hbm).1.below hb, (h.2 b hbm).2⟩⟩
theorem BSrc.at_ {w : World} {A : Option Addr} {n c : Nat} {l : List Bk} (h : BSrc w A n c l) {i : Nat} (hi : i < n) :
    ∃ b off q, A = some ⟨b, off, none⟩ ∧ b < w.heap.size ∧ l[i]? = some q ∧ BkOk w q ∧ w.cell? ⟨b, off + i * 2, none⟩ = some (.int .i64 q.k) ∧ w.cell? ⟨b, off + i * 2 + 1, none⟩ = some (.slice q.A q.n q.c) := by
  have hl := h.len
  obtain ⟨⟨A', c', hv, _, hr⟩, hk⟩ := h
  injection hv with hA _ _
  subst hA
  obtain ⟨b, off, rfl, hb, hc⟩ := hr (by omega)
  have hq : l[i]? = some l[i] := List.getElem?_eq_getElem (by omega)
  obtain ⟨c0, c1⟩ := bcells_get l i _ hq
  exact ⟨b, off, l[i], rfl, hb, hq, hk _ (List.getElem_mem _), hc _ _ c0, hc _ _ c1⟩

section
variable {H : Type} {enc : TypeId × Value → H} {w : World} {base : Nat} {held : Bool}
theorem mem_range_map {α : Type} {n : Nat} {q : Nat → α} {x : α} (h : x ∈ (List.range n).map q) : ∃ i, i < n ∧ x = q i := by
  obtain ⟨i, hi, rfl⟩ := List.mem_map.1 h
  exact ⟨i, List.mem_range.1 hi, rfl⟩
theorem get_range_map {α : Type} {n i : Nat} {q : Nat → α} (h : i < n) : ((List.range n).map q)[i]? = some (q i) := by
  rw [List.getElem?_map, List.getElem?_range h]; rfl
theorem trod_three {P : Program} {e : TypeId} {f0 f1 f2 : Field} {fuel : Nat} {cs : List Value} {x : DataW H × List MemPlace} (he : P.underlying e = some (.struct #[f0, f1, f2])) (o0 : f0.offset = 0) (o1 : f1.offset = 1) (o2 : f2.offset = 2) (c0 : P.cellsOf f0.type = 1) (c1 : P.cellsOf f1.type = 1) (c2 : P.cellsOf f2.type = 1)
    (hlen : cs.length = 3) (h : DataW.trod enc P w base (fun _ => true) held fuel e cs = some x) :
    ∃ v0 v1 v2 k y0 y1 y2, cs = [v0, v1, v2] ∧ DataW.trod enc P w base (fun _ => true) held k f0.type [v0] = some y0 ∧ DataW.trod enc P w base (fun _ => true) held k f1.type [v1] = some y1 ∧ DataW.trod enc P w base (fun _ => true) held k f2.type [v2] = some y2 := by
  obtain ⟨xs, k, _, _, _, hxl, hf⟩ := DataW.trod_struct he h
  match xs, hxl, cs, hlen with
  | [y0, y1, y2], _, [v0, v1, v2], _ =>
    have g0 := hf 0 f0 rfl
    have g1 := hf 1 f1 rfl
    have g2 := hf 2 f2 rfl
    simp [o0, o1, o2, c0, c1, c2] at g0 g1 g2
    exact ⟨v0, v1, v2, k, y0, y1, y2, rfl, g0, g1, g2⟩
theorem trod_two {P : Program} {e : TypeId} {f0 f1 : Field} {fuel : Nat} {cs : List Value} {x : DataW H × List MemPlace} (he : P.underlying e = some (.struct #[f0, f1])) (o0 : f0.offset = 0) (o1 : f1.offset = 1) (c0 : P.cellsOf f0.type = 1) (c1 : P.cellsOf f1.type = 1)
    (hlen : cs.length = 2) (h : DataW.trod enc P w base (fun _ => true) held fuel e cs = some x) :
    ∃ v0 v1 k y0 y1, cs = [v0, v1] ∧ DataW.trod enc P w base (fun _ => true) held k f0.type [v0] = some y0 ∧ DataW.trod enc P w base (fun _ => true) held k f1.type [v1] = some y1 := by
  obtain ⟨xs, k, _, _, _, hxl, hf⟩ := DataW.trod_struct he h
  match xs, hxl, cs, hlen with
  | [y0, y1], _, [v0, v1], _ =>
    have g0 := hf 0 f0 rfl
    have g1 := hf 1 f1 rfl
    simp [o0, o1, c0, c1] at g0 g1
    exact ⟨v0, v1, k, y0, y1, rfl, g0, g1⟩
theorem one_piece {fuel : Nat} {a : Addr} {cs : List Value} {x : DataW H × List MemPlace} (hc : w.cells? base a (Tryd.prog.cellsOf 94) = some cs) (h : DataW.trod enc Tryd.prog w base (fun _ => true) held fuel 94 cs = some x) :
    ∃ q : Rp, q.fine ∧ w.cell? a = some (.int .u8 q.b) ∧ w.cell? (a.add 1) = some (.int .i64 q.n) ∧ w.cell? (a.add 2) = some (.int .i64 q.d) := by
  have c3 : Tryd.prog.cellsOf 94 = 3 := by kernel_rfl
  have c8 : Tryd.prog.cellsOf 5 = 1 := by kernel_rfl
  have c1 : Tryd.prog.cellsOf 3 = 1 := by kernel_rfl
  rw [c3] at hc
  obtain ⟨_, hlen, hcell⟩ := World.cells?_some hc
  obtain ⟨v0, v1, v2, k, y0, y1, y2, rfl, g0, g1, g2⟩ := trod_three Tryd.underlying94 rfl rfl rfl c8 c1 c1 hlen h
  obtain ⟨n0, e0, _, f0⟩ := DataW.trod_int Tryd.underlying5 g0
  obtain ⟨n1, e1, _, f1⟩ := DataW.trod_int Tryd.underlying3 g1
  obtain ⟨n2, e2, _, f2⟩ := DataW.trod_int Tryd.underlying3 g2
  injection e0 with e0
  injection e1 with e1
  injection e2 with e2
  subst e0 e1 e2
  have h0 := hcell 0 (by omega)
  have h1 := hcell 1 (by omega)
  have h2 := hcell 2 (by omega)
  have b1 := bounds_i64 f1
  have b2 := bounds_i64 f2
  simp only [Lit.wf, decide_eq_true_eq, Bool.and_eq_true, IntKind.min, IntKind.max] at f0
  refine ⟨⟨n0, n1, n2⟩, ?_, by simpa [Addr.add] using h0, h1, h2⟩
  unfold Rp.fine
  simp only
  have f3 := bytes_wf6 (l := [n0]) (fun n hn => by rw [List.mem_singleton] at hn; subst hn; simpa [Lit.wf, IntKind.min, IntKind.max] using f0) n0 (by simp)
  omega
theorem rcells_at {l : List Rp} {j : Nat} {y : Value} (h : (l.flatMap rcell)[j]? = some y) : ∃ i q, l[i]? = some q ∧ ((j = i * 3 ∧ y = .int .u8 q.b) ∨ (j = i * 3 + 1 ∧ y = .int .i64 q.n) ∨ (j = i * 3 + 2 ∧ y = .int .i64 q.d)) := by
  have hj : j < l.length * 3 := by
    rw [← rcells_len]
    rcases Nat.lt_or_ge j (l.flatMap rcell).length with h1 | h1
    · exact h1
    · rw [List.getElem?_eq_none h1] at h; cases h
  have hq : l[j / 3]? = some l[j / 3] := List.getElem?_eq_getElem (by omega)
  obtain ⟨c0, c1, c2⟩ := rcells_get l (j / 3) _ hq
  refine ⟨j / 3, _, hq, ?_⟩
  obtain e | e | e : j = j / 3 * 3 ∨ j = j / 3 * 3 + 1 ∨ j = j / 3 * 3 + 2 := by omega
  · rw [e, c0] at h; injection h with h; exact .inl ⟨e, h.symm⟩
  · rw [e, c1] at h; injection h with h; exact .inr (.inl ⟨e, h.symm⟩)
  · rw [e, c2] at h; injection h with h; exact .inr (.inr ⟨e, h.symm⟩)
theorem bcells_at {l : List Bk} {j : Nat} {y : Value} (h : (l.flatMap bkcell)[j]? = some y) : ∃ i q, l[i]? = some q ∧ ((j = i * 2 ∧ y = .int .i64 q.k) ∨ (j = i * 2 + 1 ∧ y = .slice q.A q.n q.c)) := by
  have hj : j < l.length * 2 := by
    rw [← bcells_len]
    rcases Nat.lt_or_ge j (l.flatMap bkcell).length with h1 | h1
    · exact h1
    · rw [List.getElem?_eq_none h1] at h; cases h
  have hq : l[j / 2]? = some l[j / 2] := List.getElem?_eq_getElem (by omega)
  obtain ⟨c0, c1⟩ := bcells_get l (j / 2) _ hq
  refine ⟨j / 2, _, hq, ?_⟩
  obtain e | e : j = j / 2 * 2 ∨ j = j / 2 * 2 + 1 := by omega
  · rw [e, c0] at h; injection h with h; exact .inl ⟨e, h.symm⟩
  · rw [e, c1] at h; injection h with h; exact .inr ⟨e, h.symm⟩
theorem range_map_at {α : Type} {n i : Nat} {q : Nat → α} {y : α} (h : ((List.range n).map q)[i]? = some y) : i < n ∧ y = q i := by
  rcases Nat.lt_or_ge i n with h1 | h1
  · rw [get_range_map h1] at h; injection h with h; exact ⟨h1, h.symm⟩
  · rw [List.getElem?_eq_none (by simpa using h1)] at h; cases h
theorem open_pieces {fuel : Nat} {cs : List Value} {x : DataW H × List MemPlace} (h : DataW.trod enc Tryd.prog w base (fun _ => true) held fuel 36 cs = some x) :
    ∃ A n c l, cs = [.slice A n c] ∧ PSrc w A n c l ∧ ∀ q ∈ l, q.fine := by
  rcases open_slice Tryd.underlying36 h with ⟨rfl, _⟩ | ⟨a, len, cap, m, n, D, Pl, rfl, hb, hl, hm, hmm, _, hx⟩
  · exact ⟨none, 0, 0, [], rfl, ⟨none, 0, rfl, rfl, fun h => by omega⟩, fun q hq => by simp at hq⟩
  · have c3 : Tryd.prog.cellsOf 94 = 3 := by kernel_rfl
    simp only [if_true] at hmm
    have each : ∀ i, i < len → ∃ q : Rp, q.fine ∧ w.cell? (a.add (i * 3)) = some (.int .u8 q.b) ∧ w.cell? ((a.add (i * 3)).add 1) = some (.int .i64 q.n) ∧ w.cell? ((a.add (i * 3)).add 2) = some (.int .i64 q.d) := by
      intro i hi
      obtain ⟨cs', h1, h2⟩ := hx i (by omega)
      have := one_piece h1 h2
      rwa [c3] at this
    obtain ⟨q, hq⟩ := choose_lt each
    refine ⟨some a, len, cap, (List.range len).map q, rfl, ⟨some a, cap, rfl, by rw [rcells_len]; simp, fun h0 => ?_⟩, fun y hy => ?_⟩
    · obtain ⟨b, off, spot⟩ := a
      have g0 := (hq 0 h0).2.1
      have hspot : spot = none := by simpa [Addr.add] using World.cell?_spot g0
      subst hspot
      refine ⟨b, off, rfl, block_lt_of_cell (by simpa [Addr.add] using g0), fun j y hj => ?_⟩
      obtain ⟨i, p, hp, hc⟩ := rcells_at hj
      obtain ⟨hi, rfl⟩ := range_map_at hp
      obtain ⟨_, e0, e1, e2⟩ := hq i hi
      simp only [Addr.add_mid] at e0 e1 e2
      rcases hc with ⟨rfl, rfl⟩ | ⟨rfl, rfl⟩ | ⟨rfl, rfl⟩
      · exact e0
      · rw [← Nat.add_assoc]; exact e1
      · rw [← Nat.add_assoc]; exact e2
    · obtain ⟨i, hi, rfl⟩ := mem_range_map hy
      exact (hq i hi).1
theorem one_block {fuel : Nat} {a : Addr} {cs : List Value} {x : DataW H × List MemPlace} (hc : w.cells? base a (Tryd.prog.cellsOf 40) = some cs) (h : DataW.trod enc Tryd.prog w base (fun _ => true) held fuel 40 cs = some x) :
    ∃ q : Bk, BkOk w q ∧ w.cell? a = some (.int .i64 q.k) ∧ w.cell? (a.add 1) = some (.slice q.A q.n q.c) := by
  have c3 : Tryd.prog.cellsOf 40 = 2 := by kernel_rfl
  have c8 : Tryd.prog.cellsOf 36 = 1 := by kernel_rfl
  have c1 : Tryd.prog.cellsOf 3 = 1 := by kernel_rfl
  rw [c3] at hc
  obtain ⟨_, hlen, hcell⟩ := World.cells?_some hc
  obtain ⟨v0, v1, k, y0, y1, rfl, g0, g1⟩ := trod_two Tryd.underlying40 rfl rfl c1 c8 hlen h
  obtain ⟨n0, e0, _, f0⟩ := DataW.trod_int Tryd.underlying3 g0
  obtain ⟨A, n, c, l, e1, hl, hfi⟩ := open_pieces g1
  injection e0 with e0
  injection e1 with e1
  subst e0 e1
  have h0 := hcell 0 (by omega)
  have h1 := hcell 1 (by omega)
  exact ⟨⟨n0, A, n, c, l⟩, ⟨hl, hfi, bounds_i64 f0⟩, by simpa [Addr.add] using h0, h1⟩
theorem open_blocks {fuel : Nat} {cs : List Value} {x : DataW H × List MemPlace} (h : DataW.trod enc Tryd.prog w base (fun _ => true) held fuel 35 cs = some x) :
    ∃ A n c L, cs = [.slice A n c] ∧ BSrc w A n c L := by
  rcases open_slice Tryd.underlying35 h with ⟨rfl, _⟩ | ⟨a, len, cap, m, n, D, Pl, rfl, hb, hl, hm, hmm, _, hx⟩
  · exact ⟨none, 0, 0, [], rfl, ⟨none, 0, rfl, rfl, fun h => by omega⟩, fun q hq => by simp at hq⟩
  · have c3 : Tryd.prog.cellsOf 40 = 2 := by kernel_rfl
    simp only [if_true] at hmm
    have each : ∀ i, i < len → ∃ q : Bk, BkOk w q ∧ w.cell? (a.add (i * 2)) = some (.int .i64 q.k) ∧ w.cell? ((a.add (i * 2)).add 1) = some (.slice q.A q.n q.c) := by
      intro i hi
      obtain ⟨cs', h1, h2⟩ := hx i (by omega)
      have := one_block h1 h2
      rwa [c3] at this
    obtain ⟨q, hq⟩ := choose_lt each
    refine ⟨some a, len, cap, (List.range len).map q, rfl, ⟨some a, cap, rfl, by rw [bcells_len]; simp, fun h0 => ?_⟩, fun y hy => ?_⟩
    · obtain ⟨b, off, spot⟩ := a
      have g0 := (hq 0 h0).2.1
      have hspot : spot = none := by simpa [Addr.add] using World.cell?_spot g0
      subst hspot
      refine ⟨b, off, rfl, block_lt_of_cell (by simpa [Addr.add] using g0), fun j y hj => ?_⟩
      obtain ⟨i, p, hp, hc⟩ := bcells_at hj
      obtain ⟨hi, rfl⟩ := range_map_at hp
      obtain ⟨_, e0, e1⟩ := hq i hi
      simp only [Addr.add_mid] at e0 e1
      rcases hc with ⟨rfl, rfl⟩ | ⟨rfl, rfl⟩
      · exact e0
      · rw [← Nat.add_assoc]; exact e1
    · obtain ⟨i, hi, rfl⟩ := mem_range_map hy
      exact (hq i hi).1
end
end Go.Proofs.YtlhaehefhhcgaaaDoor
