/-
  what this claim needs of: StArg (written by cut.py).
-/
import Derived.Test.YtgjjdfhoakailaaGreatBMem
import Derived.ProofKit
import Derived.OpenShut
import Derived.ShutString
import Derived.ChangeOld
import Derived.Below
import Derived.Test.YtgjjdfhoakailaaGreatBStO1
import Derived.Deep.Slices
import Derived.ChangeArms
import Derived.SizedLaws
import Derived.WideShapes
import Derived.ChangeSlices
namespace Go.Proofs.YtgjjdfhoakailaaGreat
open Go.ChangeShapes Go.WideShapes Go.ChangeAt Go.RowKit Go.Deep Go.Maps
set_option linter.unusedVariables false
set_option linter.unusedSimpArgs false

theorem fm_at {α : Type} {cell : α → List Value} {sz : Nat} (hlen : ∀ q, (cell q).length = sz) (hpos : 0 < sz) : ∀ {l : List α} {j : Nat} {y : Value}, (l.flatMap cell)[j]? = some y → ∃ i q r, l[i]? = some q ∧ j = i * sz + r ∧ r < sz ∧ (cell q)[r]? = some y
  | [], j, y, h => by simp at h
  | q :: l, j, y, h => by
    rw [List.flatMap_cons] at h
    rcases Nat.lt_or_ge j sz with h1 | h1
    · rw [List.getElem?_append_left (by rw [hlen]; exact h1)] at h
      exact ⟨0, q, j, rfl, by omega, h1, h⟩
    · rw [List.getElem?_append_right (by rw [hlen]; exact h1), hlen] at h
      obtain ⟨i, p, r, h2, h3, h4, h5⟩ := fm_at hlen hpos h
      exact ⟨i + 1, p, r, by simpa using h2, by rw [Nat.succ_mul]; omega, h4, h5⟩
theorem fm_length {α : Type} {cell : α → List Value} {sz : Nat} (hlen : ∀ q, (cell q).length = sz) : ∀ l : List α, (l.flatMap cell).length = l.length * sz
  | [] => by simp
  | q :: l => by rw [List.flatMap_cons, List.length_append, hlen, fm_length hlen l, List.length_cons, Nat.succ_mul]; omega
section
variable {H : Type} {enc : TypeId × Value → H} {w : World} {base : Nat} {held : Bool}
def Fit (P : Program) (t : TypeId) (d : DataW H) : Prop := ∀ n ∈ d.weights P t, n ≤ reachBytes
theorem fit_of {P : Program} {ts : List TypeId} {ds : List (DataW H)} (h : (DataW.weightsEach P ts ds).all (· ≤ reachBytes) = true) {j : Nat} {t : TypeId} {d : DataW H} (ht : ts[j]? = some t) (hd : ds[j]? = some d) : Fit P t d := fun n hn => by
  have := List.all_eq_true.1 h n (DataW.weights_mem_each ht hd n hn)
  simpa using this
theorem Fit.part {P : Program} {t : TypeId} {fs : Array Field} {parts : List (DataW H)} (h : Fit P t (.agg parts)) (hu : P.underlying t = some (.struct fs)) {j : Nat} {f : Field} {d : DataW H} (hf : fs[j]? = some f) (hd : parts[j]? = some d) : Fit P f.type d := fun n hn => by
  refine h n ?_
  simp only [DataW.weights, hu]
  exact DataW.weights_mem_each (j := j) (by rw [List.getElem?_map, Array.getElem?_toList, hf]; rfl) hd n hn
theorem weights_mem_all {P : Program} {e : TypeId} : ∀ {ds : List (DataW H)} {d : DataW H}, d ∈ ds → ∀ n ∈ d.weights P e, n ∈ DataW.weightsAll P e ds
  | d0 :: ds, d, hd, n, hn => by
    simp only [DataW.weightsAll, List.mem_append]
    rcases List.mem_cons.1 hd with rfl | hd
    · exact .inl hn
    · exact .inr (weights_mem_all hd n hn)
theorem Fit.elem {P : Program} {t e : TypeId} {ds sp : List (DataW H)} (h : Fit P t (.slice ds sp)) (hu : P.underlying t = some (.slice e)) {d : DataW H} (hd : d ∈ ds) : Fit P e d := fun n hn => by
  refine h n ?_
  simp only [DataW.weights, hu]
  exact List.mem_cons_of_mem _ (List.mem_append_left _ (weights_mem_all hd n hn))
/-- A row of elements of whatever size. -/
theorem open_row {α : Type} [Inhabited α] {P : Program} {t e : TypeId} {fuel : Nat} {cs : List Value} {x : DataW H × List MemPlace} (ht : P.underlying t = some (.slice e)) (cell : α → List Value) (ok : α → Prop) (sz nb : Nat) (hs : P.cellsOf e = sz) (hby : P.bytesOf e = nb) (hpos : 0 < sz) (hbp : 0 < nb) (hlen : ∀ q, (cell q).length = sz)
    (one : ∀ (k : Nat) (cs : List Value) (x : DataW H × List MemPlace), DataW.trod enc P w base (fun _ => true) held k e cs = some x → Fit P e x.1 → ∃ q, cs = cell q ∧ ok q)
    (h : DataW.trod enc P w base (fun _ => true) held fuel t cs = some x) (hft : Fit P t x.1) :
    ∃ (A : Option Addr) (n c : Nat) (l : List α), cs = [.slice A n c] ∧ Src w sz (.slice A n c) n (l.flatMap cell) ∧ l.length = n ∧ (∀ q ∈ l, ok q) ∧ n ≤ 140737488351232 := by
  rcases open_slice ht h with ⟨rfl, _⟩ | ⟨a, len, cap, m, n, D, Pl, rfl, hb, hl, hm, hmm, hxe, hx⟩
  · exact ⟨none, 0, 0, [], rfl, ⟨none, 0, rfl, by simp, fun h => by omega⟩, rfl, by simp, by omega⟩
  · simp only [if_true] at hmm
    rw [hxe] at hft
    have hbig : len ≤ 140737488351232 := by
      have h1 := hft (cap * nb) (by
        simp only [DataW.weights, ht, hby]
        refine List.mem_cons.2 (.inl ?_)
        rw [List.length_map, List.length_map, List.length_range, List.length_range, hmm, Nat.add_sub_cancel' hl])
      have hrb : reachBytes = 140737488351232 := rfl
      have h2 : cap * 1 ≤ cap * nb := Nat.mul_le_mul_left _ hbp
      omega
    have each : ∀ i, i < len → ∃ q : α, ok q ∧ ∀ r, r < sz → w.cell? ((a.add (i * sz)).add r) = (cell q)[r]? := by
      intro i hi
      obtain ⟨cs', h1, h2⟩ := hx i (by omega)
      obtain ⟨q, rfl, hq⟩ := one n cs' _ h2 (hft.elem ht (List.mem_map.2 ⟨i, List.mem_range.2 hi, rfl⟩))
      rw [hs] at h1
      exact ⟨q, hq, (World.cells?_some h1).2.2⟩
    obtain ⟨q, hq⟩ := choose_lt each
    refine ⟨some a, len, cap, (List.range len).map q, rfl, ⟨some a, cap, rfl, by rw [fm_length hlen]; simp, fun h0 => ?_⟩, by simp, fun y hy => ?_, hbig⟩
    · obtain ⟨b, off, spot⟩ := a
      have g0 := (hq 0 h0).2 0 hpos
      have hc0 : ((cell (q 0))[0]?) = some ((cell (q 0))[0]'(by rw [hlen]; exact hpos)) := List.getElem?_eq_getElem _
      rw [hc0] at g0
      have hspot : spot = none := by simpa [Addr.add] using World.cell?_spot g0
      subst hspot
      refine ⟨b, off, rfl, block_lt_of_cell (by simpa [Addr.add] using g0), fun j y hj => ?_⟩
      obtain ⟨i, p, r, h1, rfl, h3, h4⟩ := fm_at hlen hpos hj
      have hi : i < len := by
        rcases Nat.lt_or_ge i len with h | h
        · exact h
        · rw [List.getElem?_eq_none (by simpa using h)] at h1; cases h1
      rw [List.getElem?_map, List.getElem?_range hi] at h1
      injection h1 with h1
      subst h1
      have := (hq i hi).2 r h3
      rw [Addr.add_mid, Addr.add_mid, h4] at this
      rw [← Nat.add_assoc]
      exact this
    · obtain ⟨i, hi, rfl⟩ := List.mem_map.1 hy
      exact (hq i (List.mem_range.1 hi)).1
theorem ar_i64 {n : Int} (h : (Lit.int .i64 n).wf = true) : -9223372036854775808 ≤ n ∧ n ≤ 9223372036854775807 := by
  simp only [Lit.wf, decide_eq_true_eq, Bool.and_eq_true, IntKind.min, IntKind.max, IntKind.signed, IntKind.bits, if_true] at h
  omega
theorem ar_u8 {n : Int} (h : (Lit.int .u8 n).wf = true) : 0 ≤ n ∧ n < 256 := by
  have h1 : IntKind.u8.min ≤ n ∧ n ≤ IntKind.u8.max := by simpa [Lit.wf] using h
  have e1 : IntKind.u8.min = 0 := by decide
  have e2 : IntKind.u8.max = 255 := by decide
  omega
theorem choose_below {n : Nat} {p : Nat → Int → Prop} (h : ∀ i, i < n → ∃ x, p i x) : ∃ l : List Int, l.length = n ∧ ∀ i (hi : i < l.length), p i l[i] := by
  obtain ⟨f, hf⟩ := choose_lt h
  exact ⟨(List.range n).map f, by simp, fun i hi => by simpa using hf i (by simpa using hi)⟩
theorem ar_key {fuel : Nat} {cs : List Value} {x : DataW H × List MemPlace} (h : DataW.trod enc Tryz.prog w base (fun _ => true) held fuel 50 cs = some x) : ∃ K : Key, cs = keyL K := by
  have c1 : Tryz.prog.cellsOf 5 = 1 := by kernel_rfl
  obtain ⟨xs, m, _, _, hlen, hxl, hf⟩ := DataW.trod_array Tryz.underlying50 h
  rw [key_cellsOf] at hlen
  obtain ⟨l, hl, hp⟩ := choose_below (n := 32) (p := fun i z => cs[i]? = some (.int .u8 z) ∧ (0 ≤ z ∧ z < 256)) (fun i hi => by
    have h1 := hf i hi
    rw [c1, Nat.mul_one, List.drop_eq_getElem_cons (by omega), List.take_succ_cons, List.take_zero, List.getElem?_eq_getElem (by omega)] at h1
    obtain ⟨z, e, _, hz⟩ := DataW.trod_int Tryz.underlying5 h1
    injection e with e
    exact ⟨z, by rw [List.getElem?_eq_getElem (by omega), e], ar_u8 hz⟩)
  refine ⟨⟨l, hl, fun z hz => ?_⟩, ?_⟩
  · obtain ⟨i, hi, rfl⟩ := List.getElem_of_mem hz
    exact (hp i hi).2
  · apply List.ext_getElem?
    intro i
    unfold keyL
    rw [List.getElem?_map]
    rcases Nat.lt_or_ge i 32 with hi | hi
    · rw [(hp i (by omega)).1, List.getElem?_eq_getElem (by omega : i < l.length)]
      rfl
    · rw [List.getElem?_eq_none (by omega), List.getElem?_eq_none (show l.length ≤ i by omega)]
      rfl
theorem ar_int {fuel : Nat} {cs : List Value} {x : DataW H × List MemPlace} (h : DataW.trod enc Tryz.prog w base (fun _ => true) held fuel 3 cs = some x) : ∃ n : Int, cs = [.int .i64 n] ∧ -9223372036854775808 ≤ n ∧ n ≤ 9223372036854775807 := by
  obtain ⟨z, e, _, hz⟩ := DataW.trod_int Tryz.underlying3 h
  exact ⟨z, e, ar_i64 hz⟩
def i64B (n : Int) : Prop := -9223372036854775808 ≤ n ∧ n ≤ 9223372036854775807
def PlB (p : Pl) : Prop := i64B p.pos ∧ i64B p.sec ∧ i64B p.uni ∧ i64B p.ref
def SlB (s : Sl) : Prop := i64B s.off ∧ i64B s.mask
def ItB (i : It) : Prop := (0 ≤ i.kind ∧ i.kind < 256) ∧ PlB i.pl ∧ i64B i.snap ∧ i64B i.unit ∧ SlB i.sl
def FrB (f : Fr) : Prop := PlB f.pl
def PuB (p : Pu) : Prop := i64B p.unit ∧ SlB p.sl
theorem cut_all {cs a : List Value} {o n : Nat} (h : (cs.drop o).take n = a) : cs.drop o = a ++ cs.drop (o + n) := by
  rw [← h, ← List.drop_drop, List.take_append_drop]
theorem len4 {α : Type} {l : List α} (h : l.length = 4) : ∃ a0 a1 a2 a3, l = [a0, a1, a2, a3] := by
  match l, h with
  | [a0, a1, a2, a3], _ => exact ⟨_, _, _, _, rfl⟩
theorem len6 {α : Type} {l : List α} (h : l.length = 6) : ∃ a0 a1 a2 a3 a4 a5, l = [a0, a1, a2, a3, a4, a5] := by
  match l, h with
  | [a0, a1, a2, a3, a4, a5], _ => exact ⟨_, _, _, _, _, _, rfl⟩
theorem ar_pl {fuel : Nat} {cs : List Value} {x : DataW H × List MemPlace} (h : DataW.trod enc Tryz.prog w base (fun _ => true) held fuel 52 cs = some x) : ∃ p : Pl, cs = plC p ∧ PlB p := by
  have c1 : Tryz.prog.cellsOf 3 = 1 := by kernel_rfl
  have ct : Tryz.prog.cellsOf 52 = 4 := by kernel_rfl
  obtain ⟨xs, k, _, _, hlen, hxl, hf⟩ := DataW.trod_struct Tryz.underlying52 h
  rw [ct] at hlen
  match xs, hxl with
  | [y0, y1, y2, y3], _ =>
    obtain ⟨v0, v1, v2, v3, rfl⟩ := len4 hlen
    have g0 : DataW.trod enc Tryz.prog w base (fun _ => true) held k 3 ((([v0, v1, v2, v3] : List Value).drop 0).take (Tryz.prog.cellsOf 3)) = some y0 := hf 0 _ rfl
    rw [c1] at g0
    have g1 : DataW.trod enc Tryz.prog w base (fun _ => true) held k 3 ((([v0, v1, v2, v3] : List Value).drop 1).take (Tryz.prog.cellsOf 3)) = some y1 := hf 1 _ rfl
    rw [c1] at g1
    have g2 : DataW.trod enc Tryz.prog w base (fun _ => true) held k 3 ((([v0, v1, v2, v3] : List Value).drop 2).take (Tryz.prog.cellsOf 3)) = some y2 := hf 2 _ rfl
    rw [c1] at g2
    have g3 : DataW.trod enc Tryz.prog w base (fun _ => true) held k 3 ((([v0, v1, v2, v3] : List Value).drop 3).take (Tryz.prog.cellsOf 3)) = some y3 := hf 3 _ rfl
    rw [c1] at g3
    simp only [List.drop_zero, List.drop_succ_cons, List.take_succ_cons, List.take_zero] at g0 g1 g2 g3
    obtain ⟨z0, e0, b0⟩ := ar_int g0
    obtain ⟨z1, e1, b1⟩ := ar_int g1
    obtain ⟨z2, e2, b2⟩ := ar_int g2
    obtain ⟨z3, e3, b3⟩ := ar_int g3
    simp only [List.cons.injEq, and_true] at e0 e1 e2 e3
    subst e0 e1 e2 e3
    exact ⟨⟨z0, z1, z2, z3⟩, rfl, b0, b1, b2, b3⟩
theorem ar_sl {fuel : Nat} {cs : List Value} {x : DataW H × List MemPlace} (h : DataW.trod enc Tryz.prog w base (fun _ => true) held fuel 54 cs = some x) : ∃ s : Sl, cs = slC s ∧ SlB s := by
  have c1 : Tryz.prog.cellsOf 3 = 1 := by kernel_rfl
  have ct : Tryz.prog.cellsOf 54 = 34 := by kernel_rfl
  obtain ⟨xs, k, _, _, hlen, hxl, hf⟩ := DataW.trod_struct Tryz.underlying54 h
  rw [ct] at hlen
  match xs, hxl with
  | [y0, y1, y2], _ =>
    have g0 : DataW.trod enc Tryz.prog w base (fun _ => true) held k 50 ((cs.drop 0).take (Tryz.prog.cellsOf 50)) = some y0 := hf 0 _ rfl
    rw [key_cellsOf] at g0
    have g1 : DataW.trod enc Tryz.prog w base (fun _ => true) held k 3 ((cs.drop 32).take (Tryz.prog.cellsOf 3)) = some y1 := hf 1 _ rfl
    rw [c1] at g1
    have g2 : DataW.trod enc Tryz.prog w base (fun _ => true) held k 3 ((cs.drop 33).take (Tryz.prog.cellsOf 3)) = some y2 := hf 2 _ rfl
    rw [c1] at g2
    obtain ⟨K, e0⟩ := ar_key g0
    obtain ⟨z1, e1, b1⟩ := ar_int g1
    obtain ⟨z2, e2, b2⟩ := ar_int g2
    refine ⟨⟨K, z1, z2⟩, ?_, b1, b2⟩
    have q0 := cut_all e0
    have q1 := cut_all e1
    have q2 := cut_all e2
    simp only [Nat.zero_add, Nat.reduceAdd, List.drop_zero] at q0 q1 q2
    rw [q0, q1, q2, List.drop_eq_nil_of_le (by omega)]
    simp [slC]
theorem ar_fr {fuel : Nat} {cs : List Value} {x : DataW H × List MemPlace} (h : DataW.trod enc Tryz.prog w base (fun _ => true) held fuel 130 cs = some x) : ∃ f : Fr, cs = frC f ∧ FrB f := by
  have cp : Tryz.prog.cellsOf 52 = 4 := by kernel_rfl
  have ct : Tryz.prog.cellsOf 130 = 36 := by kernel_rfl
  obtain ⟨xs, k, _, _, hlen, hxl, hf⟩ := DataW.trod_struct Tryz.underlying130 h
  rw [ct] at hlen
  match xs, hxl with
  | [y0, y1], _ =>
    have g0 : DataW.trod enc Tryz.prog w base (fun _ => true) held k 50 ((cs.drop 0).take (Tryz.prog.cellsOf 50)) = some y0 := hf 0 _ rfl
    rw [key_cellsOf] at g0
    have g1 : DataW.trod enc Tryz.prog w base (fun _ => true) held k 52 ((cs.drop 32).take (Tryz.prog.cellsOf 52)) = some y1 := hf 1 _ rfl
    rw [cp] at g1
    obtain ⟨K, e0⟩ := ar_key g0
    obtain ⟨p, e1, b1⟩ := ar_pl g1
    refine ⟨⟨K, p⟩, ?_, b1⟩
    have q0 := cut_all e0
    have q1 := cut_all e1
    simp only [Nat.zero_add, Nat.reduceAdd, List.drop_zero] at q0 q1
    rw [q0, q1, List.drop_eq_nil_of_le (by omega), List.append_nil]
    rfl
theorem ar_pu {fuel : Nat} {cs : List Value} {x : DataW H × List MemPlace} (h : DataW.trod enc Tryz.prog w base (fun _ => true) held fuel 132 cs = some x) : ∃ f : Pu, cs = puC f ∧ PuB f := by
  have c1 : Tryz.prog.cellsOf 3 = 1 := by kernel_rfl
  have cp : Tryz.prog.cellsOf 54 = 34 := by kernel_rfl
  have ct : Tryz.prog.cellsOf 132 = 35 := by kernel_rfl
  obtain ⟨xs, k, _, _, hlen, hxl, hf⟩ := DataW.trod_struct Tryz.underlying132 h
  rw [ct] at hlen
  match xs, hxl with
  | [y0, y1], _ =>
    have g0 : DataW.trod enc Tryz.prog w base (fun _ => true) held k 3 ((cs.drop 0).take (Tryz.prog.cellsOf 3)) = some y0 := hf 0 _ rfl
    rw [c1] at g0
    have g1 : DataW.trod enc Tryz.prog w base (fun _ => true) held k 54 ((cs.drop 1).take (Tryz.prog.cellsOf 54)) = some y1 := hf 1 _ rfl
    rw [cp] at g1
    obtain ⟨z, e0, b0⟩ := ar_int g0
    obtain ⟨p, e1, b1⟩ := ar_sl g1
    refine ⟨⟨z, p⟩, ?_, b0, b1⟩
    have q0 := cut_all e0
    have q1 := cut_all e1
    simp only [Nat.zero_add, Nat.reduceAdd, List.drop_zero] at q0 q1
    rw [q0, q1, List.drop_eq_nil_of_le (by omega), List.append_nil]
    rfl
/-- An op as it came in: its value's parts. -/
structure OpE where
  o : OpV
  A : Option Addr
  c : Nat
  B : Option Addr
  d : Nat
instance : Inhabited OpE := ⟨⟨⟨0, 0, 0, 0, [], []⟩, none, 0, none, 0⟩⟩
instance : Inhabited It := ⟨⟨0, zKey, zPl, 0, 0, zSl⟩⟩
instance : Inhabited Fr := ⟨⟨zKey, zPl⟩⟩
instance : Inhabited Pu := ⟨⟨0, zSl⟩⟩
def opEC (e : OpE) : List Value := opC e.o e.A e.c e.B e.d
def OpB (o : OpV) : Prop := (0 ≤ o.kind ∧ o.kind < 256) ∧ i64B o.pos ∧ i64B o.n ∧ i64B o.snap ∧ (∀ f ∈ o.news, FrB f) ∧ (∀ p ∈ o.puts, PuB p) ∧ o.news.length ≤ 140737488351232 ∧ o.puts.length ≤ 140737488351232
def OpEOk (w : World) (e : OpE) : Prop := OpAt w e.o e.A e.c e.B e.d ∧ OpB e.o
theorem opEC_len (e : OpE) : (opEC e).length = 6 := rfl
theorem ar_op {fuel : Nat} {cs : List Value} {x : DataW H × List MemPlace} (h : DataW.trod enc Tryz.prog w base (fun _ => true) held fuel 35 cs = some x) (hft : Fit Tryz.prog 35 x.1) : ∃ e : OpE, cs = opEC e ∧ OpEOk w e := by
  have c0 : Tryz.prog.cellsOf 31 = 1 := by kernel_rfl
  have c1 : Tryz.prog.cellsOf 3 = 1 := by kernel_rfl
  have cf : Tryz.prog.cellsOf 32 = 1 := by kernel_rfl
  have cp : Tryz.prog.cellsOf 33 = 1 := by kernel_rfl
  have ct : Tryz.prog.cellsOf 35 = 6 := by kernel_rfl
  obtain ⟨xs, k, _, hx, hlen, hxl, hf⟩ := DataW.trod_struct Tryz.underlying35 h
  rw [ct] at hlen
  rw [hx] at hft
  obtain ⟨y0, y1, y2, y3, y4, y5, rfl⟩ := len6 hxl
  obtain ⟨v0, v1, v2, v3, v4, v5, rfl⟩ := len6 hlen
  have g0 : DataW.trod enc Tryz.prog w base (fun _ => true) held k 31 ((([v0, v1, v2, v3, v4, v5] : List Value).drop 0).take (Tryz.prog.cellsOf 31)) = some y0 := hf 0 _ rfl
  rw [c0] at g0
  have g1 : DataW.trod enc Tryz.prog w base (fun _ => true) held k 3 ((([v0, v1, v2, v3, v4, v5] : List Value).drop 1).take (Tryz.prog.cellsOf 3)) = some y1 := hf 1 _ rfl
  rw [c1] at g1
  have g2 : DataW.trod enc Tryz.prog w base (fun _ => true) held k 3 ((([v0, v1, v2, v3, v4, v5] : List Value).drop 2).take (Tryz.prog.cellsOf 3)) = some y2 := hf 2 _ rfl
  rw [c1] at g2
  have g3 : DataW.trod enc Tryz.prog w base (fun _ => true) held k 3 ((([v0, v1, v2, v3, v4, v5] : List Value).drop 3).take (Tryz.prog.cellsOf 3)) = some y3 := hf 3 _ rfl
  rw [c1] at g3
  have g4 : DataW.trod enc Tryz.prog w base (fun _ => true) held k 32 ((([v0, v1, v2, v3, v4, v5] : List Value).drop 4).take (Tryz.prog.cellsOf 32)) = some y4 := hf 4 _ rfl
  rw [cf] at g4
  have g5 : DataW.trod enc Tryz.prog w base (fun _ => true) held k 33 ((([v0, v1, v2, v3, v4, v5] : List Value).drop 5).take (Tryz.prog.cellsOf 33)) = some y5 := hf 5 _ rfl
  rw [cp] at g5
  simp only [List.drop_zero, List.drop_succ_cons, List.take_succ_cons, List.take_zero] at g0 g1 g2 g3 g4 g5
  obtain ⟨z0, e0, _, b0⟩ := DataW.trod_int Tryz.underlying31 g0
  obtain ⟨z1, e1, b1⟩ := ar_int g1
  obtain ⟨z2, e2, b2⟩ := ar_int g2
  obtain ⟨z3, e3, b3⟩ := ar_int g3
  obtain ⟨A, n, c, l, e4, s4, l4, o4, m4⟩ := open_row Tryz.underlying32 frC FrB 36 64 (by kernel_rfl) (by kernel_rfl) (by omega) (by omega) frC_len (fun k cs x h _ => ar_fr h) g4 (hft.part Tryz.underlying35 (j := 4) rfl rfl)
  obtain ⟨B, m, d, r, e5, s5, l5, o5, m5⟩ := open_row Tryz.underlying33 puC PuB 35 56 (by kernel_rfl) (by kernel_rfl) (by omega) (by omega) puC_len (fun k cs x h _ => ar_pu h) g5 (hft.part Tryz.underlying35 (j := 5) rfl rfl)
  subst l4 l5
  simp only [List.cons.injEq, and_true] at e0 e1 e2 e3 e4 e5
  subst e0 e1 e2 e3 e4 e5
  exact ⟨⟨⟨z0, z1, z2, z3, l, r⟩, A, c, B, d⟩, rfl, ⟨s4, s5⟩, ar_u8 b0, b1, b2, b3, o4, o5, m4, m5⟩
/-- A row of ops. -/
def OpsAt (w : World) (A : Option Addr) (n c : Nat) (l : List OpE) : Prop := Src w 6 (.slice A n c) n (l.flatMap opEC) ∧ l.length = n ∧ (∀ e ∈ l, OpEOk w e) ∧ n ≤ 140737488351232
theorem ar_ops {fuel : Nat} {cs : List Value} {x : DataW H × List MemPlace} (h : DataW.trod enc Tryz.prog w base (fun _ => true) held fuel 22 cs = some x) (hft : Fit Tryz.prog 22 x.1) : ∃ (A : Option Addr) (n c : Nat) (l : List OpE), cs = [.slice A n c] ∧ OpsAt w A n c l :=
  open_row Tryz.underlying22 opEC (OpEOk w) 6 80 (by kernel_rfl) (by kernel_rfl) (by omega) (by omega) opEC_len (fun k cs x h hf => ar_op h hf) h hft
end
end Go.Proofs.YtgjjdfhoakailaaGreat
