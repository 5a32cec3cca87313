/-
  A tale, and a step, that came in as an argument, opened.
-/
import Derived.Test.YtfehgpjnlkgekaaGreatDoorLnAwake
import Derived.Test.YtfehgpjnlkgekaaGreatDoorLawKit
import Derived.Deep.Slices
import Derived.ChangeArms
import Derived.SizedLaws
import Derived.WideShapes
import Derived.ChangeSlices
namespace Go.Proofs.YtfehgpjnlkgekaaGreatDoor
open Go.ChangeShapes Go.WideShapes Go.ChangeAt Go.RowKit Go.Deep
set_option linter.unusedVariables false
set_option linter.unusedSimpArgs false

section
variable {H : Type} {enc : TypeId × Value → H} {w : World} {base : Nat} {held : Bool}
def Fit (P : Program) (t : TypeId) (d : DataW H) : Prop := ∀ n ∈ d.weights P t, n ≤ reachBytes
theorem fit_of {P : Program} {ts : List TypeId} {ds : List (DataW H)} (h : (DataW.weightsEach P ts ds).all (· ≤ reachBytes) = true) {j : Nat} {t : TypeId} {d : DataW H} (ht : ts[j]? = some t) (hd : ds[j]? = some d) : Fit P t d := fun n hn => by
  have := List.all_eq_true.1 h n (DataW.weights_mem_each ht hd n hn)
  simpa using this
theorem Fit.part {P : Program} {t : TypeId} {fs : Array Field} {parts : List (DataW H)} (h : Fit P t (.agg parts)) (hu : P.underlying t = some (.struct fs)) {j : Nat} {f : Field} {d : DataW H} (hf : fs[j]? = some f) (hd : parts[j]? = some d) : Fit P f.type d := fun n hn => by
  refine h n ?_
  simp only [DataW.weights, hu]
  exact DataW.weights_mem_each (j := j) (by rw [List.getElem?_map, Array.getElem?_toList, hf]; rfl) hd n hn
theorem slice_row {P : Program} {t e : TypeId} {k : IntKind} {fuel : Nat} {cs : List Value} {x : DataW H × List MemPlace} (ht : P.underlying t = some (.slice e)) (he : P.underlying e = some (.int k)) (hc : P.cellsOf e = 1)
    (h : DataW.trod enc P w base (fun _ => true) held fuel t cs = some x) : ∃ A len cap zs, cs = [.slice A len cap] ∧ IsRow k w A len cap zs ∧ (Fit P t x.1 → cap * P.bytesOf e ≤ reachBytes) := by
  rcases open_ints ht he hc h with ⟨rfl, _⟩ | ⟨a, l, c, zs, rfl, _, hl, hm, hz, hx, hcell, hwz⟩
  · exact ⟨none, 0, 0, [], rfl, .inl ⟨rfl, rfl, rfl, rfl⟩, fun _ => by simp⟩
  · simp only [if_true] at hz
    refine ⟨some a, l, c, zs, rfl, .inr ⟨a, rfl, hl, hm, hz, hcell, hwz⟩, fun hf => ?_⟩
    have h1 := hf (c * P.bytesOf e) (by
      rw [hx]
      simp only [DataW.weights, ht]
      refine List.mem_cons.2 (.inl ?_)
      congr 1
      simp [lits]
      omega)
    exact h1
theorem list4 {α : Type} {l : List α} (h : l.length = 4) : ∃ a0 a1 a2 a3, l = [a0, a1, a2, a3] := by
  match l, h with
  | [a0, a1, a2, a3], _ => exact ⟨_, _, _, _, rfl⟩
theorem list5 {α : Type} {l : List α} (h : l.length = 5) : ∃ a0 a1 a2 a3 a4, l = [a0, a1, a2, a3, a4] := by
  match l, h with
  | [a0, a1, a2, a3, a4], _ => exact ⟨_, _, _, _, _, rfl⟩
theorem list6 {α : Type} {l : List α} (h : l.length = 6) : ∃ a0 a1 a2 a3 a4 a5, l = [a0, a1, a2, a3, a4, a5] := by
  match l, h with
  | [a0, a1, a2, a3, a4, a5], _ => exact ⟨_, _, _, _, _, _, rfl⟩
theorem list10 {α : Type} {l : List α} (h : l.length = 10) : ∃ a0 a1 a2 a3 a4 a5 a6 a7 a8 a9, l = [a0, a1, a2, a3, a4, a5, a6, a7, a8, a9] := by
  match l, h with
  | [a0, a1, a2, a3, a4, a5, a6, a7, a8, a9], _ => exact ⟨_, _, _, _, _, _, _, _, _, _, rfl⟩
theorem list13 {α : Type} {l : List α} (h : l.length = 13) : ∃ a0 a1 a2 a3 a4 a5 a6 a7 a8 a9 a10 a11 a12, l = [a0, a1, a2, a3, a4, a5, a6, a7, a8, a9, a10, a11, a12] := by
  match l, h with
  | [a0, a1, a2, a3, a4, a5, a6, a7, a8, a9, a10, a11, a12], _ => exact ⟨_, _, _, _, _, _, _, _, _, _, _, _, _, rfl⟩
theorem fit_i64 {n : Int} (h : (Lit.int .i64 n).wf = true) : i64b n := by
  simp only [Lit.wf, decide_eq_true_eq, Bool.and_eq_true, IntKind.min, IntKind.max, IntKind.signed, IntKind.bits, if_true] at h
  unfold i64b
  omega
theorem fit_u8 {n : Int} (h : (Lit.int .u8 n).wf = true) : 0 ≤ n ∧ n < 256 := by
  have h1 : IntKind.u8.min ≤ n ∧ n ≤ IntKind.u8.max := by simpa [Lit.wf] using h
  have e1 : IntKind.u8.min = 0 := by decide
  have e2 : IntKind.u8.max = 255 := by decide
  omega
theorem get_some {α : Type} {a b : Option α} {x : α} (h : a = b) (hb : b = some x) : a = some x := h.trans hb
theorem open_geo {fuel : Nat} {cs : List Value} {x : DataW H × List MemPlace} (h : DataW.trod enc Tryz.prog w base (fun _ => true) held fuel 42 cs = some x) :
    ∃ v0 v1 v2 v3 v4, cs = [.int .i64 v0, .int .i64 v1, .int .i64 v2, .int .i64 v3, .int .i64 v4] ∧ i64b v0 ∧ i64b v1 ∧ i64b v2 ∧ i64b v3 ∧ i64b v4 := by
  have c1 : Tryz.prog.cellsOf 3 = 1 := by kernel_rfl
  have cg : Tryz.prog.cellsOf 42 = 5 := by kernel_rfl
  obtain ⟨xs, k, _, _, hlen, hxl, hf⟩ := DataW.trod_struct Tryz.underlying42 h
  obtain ⟨y0, y1, y2, y3, y4, rfl⟩ := list5 hxl
  obtain ⟨a0, a1, a2, a3, a4, rfl⟩ := list5 (hlen.trans cg)
  have g0 := hf 0 _ rfl
  have g1 := hf 1 _ rfl
  have g2 := hf 2 _ rfl
  have g3 := hf 3 _ rfl
  have g4 := hf 4 _ rfl
  simp [c1] at g0 g1 g2 g3 g4
  obtain ⟨v0, e0, _, f0⟩ := DataW.trod_int Tryz.underlying3 g0
  obtain ⟨v1, e1, _, f1⟩ := DataW.trod_int Tryz.underlying3 g1
  obtain ⟨v2, e2, _, f2⟩ := DataW.trod_int Tryz.underlying3 g2
  obtain ⟨v3, e3, _, f3⟩ := DataW.trod_int Tryz.underlying3 g3
  obtain ⟨v4, e4, _, f4⟩ := DataW.trod_int Tryz.underlying3 g4
  simp only [List.cons.injEq, and_true] at e0 e1 e2 e3 e4
  subst e0 e1 e2 e3 e4
  exact ⟨v0, v1, v2, v3, v4, rfl, fit_i64 f0, fit_i64 f1, fit_i64 f2, fit_i64 f3, fit_i64 f4⟩
def StatIn (w : World) (cs : List Value) (x : StatS) : Prop := ∃ A c, cs = (x.vs (.slice A x.sl.length c)).toList ∧ RdI .i64 w A x.sl.length x.sl ∧ (∀ z ∈ x.sl, i64b z) ∧ (∀ z ∈ [x.v0, x.v1, x.v2, x.v3, x.v4, x.v5, x.v6, x.v7, x.v8], i64b z)
theorem open_stat {fuel : Nat} {cs : List Value} {x : DataW H × List MemPlace} (h : DataW.trod enc Tryz.prog w base (fun _ => true) held fuel 45 cs = some x) :
    ∃ y : StatS, StatIn w cs y ∧ (Fit Tryz.prog 45 x.1 → y.sl.length * 8 ≤ reachBytes) := by
  have c1 : Tryz.prog.cellsOf 3 = 1 := by kernel_rfl
  have cg : Tryz.prog.cellsOf 42 = 5 := by kernel_rfl
  have cs1 : Tryz.prog.cellsOf 43 = 1 := by kernel_rfl
  have ct : Tryz.prog.cellsOf 45 = 10 := by kernel_rfl
  have b8 : Tryz.prog.bytesOf 3 = 8 := by kernel_rfl
  obtain ⟨xs, k, _, hx, hlen, hxl, hf⟩ := DataW.trod_struct Tryz.underlying45 h
  obtain ⟨y0, y1, y2, y3, y4, y5, rfl⟩ := list6 hxl
  obtain ⟨a0, a1, a2, a3, a4, a5, a6, a7, a8, a9, rfl⟩ := list10 (hlen.trans ct)
  have g0 := hf 0 _ rfl
  have g1 := hf 1 _ rfl
  have g2 := hf 2 _ rfl
  have g3 := hf 3 _ rfl
  have g4 := hf 4 _ rfl
  have g5 := hf 5 _ rfl
  simp [c1, cg, cs1] at g0 g1 g2 g3 g4 g5
  obtain ⟨v0, v1, v2, v3, v4, eg, f0, f1, f2, f3, f4⟩ := open_geo g0
  obtain ⟨v5, e5, _, f5⟩ := DataW.trod_int Tryz.underlying3 g1
  obtain ⟨v6, e6, _, f6⟩ := DataW.trod_int Tryz.underlying3 g2
  obtain ⟨v7, e7, _, f7⟩ := DataW.trod_int Tryz.underlying3 g3
  obtain ⟨A, n, c, zs, e8, hr, hfit⟩ := slice_row Tryz.underlying43 Tryz.underlying3 c1 g4
  obtain ⟨v8, e9, _, f8⟩ := DataW.trod_int Tryz.underlying3 g5
  simp only [List.cons.injEq, and_true] at eg e5 e6 e7 e8 e9
  obtain ⟨rfl, rfl, rfl, rfl, rfl⟩ := eg
  subst e5 e6 e7 e8 e9
  obtain ⟨hrd, hnc, hcm, hwf⟩ := hr.rd
  have hl := hrd.1
  refine ⟨⟨v0, v1, v2, v3, v4, v5, v6, v7, v8, zs.take n⟩, ⟨A, c, ?_, ?_, ?_, ?_⟩, fun hft => ?_⟩
  · show _ = [_, _, _, _, _, _, _, _, _, _]
    simp only [hl]
  · simp only [hl]; exact hrd
  · exact fun z hz => fit_i64 (hwf z hz)
  · intro z hz
    simp only [List.mem_cons, List.not_mem_nil, or_false] at hz
    rcases hz with rfl | rfl | rfl | rfl | rfl | rfl | rfl | rfl | rfl
    · exact f0
    · exact f1
    · exact f2
    · exact f3
    · exact f4
    · exact fit_i64 f5
    · exact fit_i64 f6
    · exact fit_i64 f7
    · exact fit_i64 f8
  · rw [hx] at hft
    have h8 := hfit (hft.part Tryz.underlying45 (j := 4) rfl rfl)
    rw [b8] at h8
    show (zs.take n).length * 8 ≤ _
    rw [hl]
    omega
def TaleIn (w : World) (v : Value) (x : TaleS) : Prop := TaleRd w v x ∧ By x.bs ∧ (∀ z ∈ x.st.sl, i64b z) ∧ i64b x.e ∧ i64b x.sn ∧ (∀ z ∈ [x.st.v0, x.st.v1, x.st.v2, x.st.v3, x.st.v4, x.st.v5, x.st.v6, x.st.v7, x.st.v8], i64b z) ∧ x.bs.length ≤ 140737488351232 ∧ x.st.sl.length ≤ 140737488351232
theorem open_tale {fuel : Nat} {arr : Array Value} {x : DataW H × List MemPlace} (h : DataW.trod enc Tryz.prog w base (fun _ => true) held fuel 47 (Value.agg arr).cells.toList = some x) (hfit : Fit Tryz.prog 47 x.1) :
    ∃ y : TaleS, TaleIn w (.agg arr) y := by
  have c1 : Tryz.prog.cellsOf 3 = 1 := by kernel_rfl
  have c2 : Tryz.prog.cellsOf 28 = 1 := by kernel_rfl
  have c3 : Tryz.prog.cellsOf 24 = 1 := by kernel_rfl
  have c4 : Tryz.prog.cellsOf 5 = 1 := by kernel_rfl
  have c5 : Tryz.prog.cellsOf 45 = 10 := by kernel_rfl
  have ct : Tryz.prog.cellsOf 47 = 13 := by kernel_rfl
  have b1 : Tryz.prog.bytesOf 5 = 1 := by kernel_rfl
  obtain ⟨xs, k, _, hx, hlen, hxl, hf⟩ := DataW.trod_struct Tryz.underlying47 h
  obtain ⟨cs, hcs⟩ : ∃ cs, cs = (Value.agg arr).cells.toList := ⟨_, rfl⟩
  have harr : arr = cs.toArray := by rw [hcs]; simp [Value.cells]
  rw [← hcs] at hlen hf
  clear hcs
  obtain ⟨y0, y1, y2, y3, rfl⟩ := list4 hxl
  obtain ⟨a0, a1, a2, a3, a4, a5, a6, a7, a8, a9, a10, a11, a12, rfl⟩ := list13 (hlen.trans ct)
  have g0 := hf 0 _ rfl
  have g1 := hf 1 _ rfl
  have g2 := hf 2 _ rfl
  have g3 := hf 3 _ rfl
  simp [c1, c2, c3, c5] at g0 g1 g2 g3
  obtain ⟨e, e0, _, f0⟩ := DataW.trod_int Tryz.underlying28 g0
  obtain ⟨A, n, c, zs, e1, hr, hft⟩ := slice_row Tryz.underlying24 Tryz.underlying5 c4 g1
  obtain ⟨sn, e2, _, f2⟩ := DataW.trod_int Tryz.underlying3 g2
  obtain ⟨st, ⟨B, d, e3, hsr, hsb, hsv⟩, hsf⟩ := open_stat g3
  simp only [List.cons.injEq, and_true] at e0 e1 e2
  subst e0 e1 e2
  obtain ⟨hrd, hnc, hcm, hwf⟩ := hr.rd
  have hl := hrd.1
  rw [hx] at hfit
  have w1 := hft (hfit.part Tryz.underlying47 (j := 1) rfl rfl)
  have w3 := hsf (hfit.part Tryz.underlying47 (j := 3) rfl rfl)
  rw [b1] at w1
  unfold reachBytes at w1 w3
  refine ⟨⟨e, sn, zs.take n, st⟩, ⟨A, c, B, d, ?_, ?_, hsr⟩, fun z hz => fit_u8 (hwf z hz), hsb, fit_i64 f0, fit_i64 f2, hsv, ?_, ?_⟩
  · rw [harr]
    unfold StatS.vs statV at e3
    simp only [List.cons.injEq, and_true] at e3
    obtain ⟨rfl, rfl, rfl, rfl, rfl, rfl, rfl, rfl, rfl, rfl⟩ := e3
    simp only [hl]
    rfl
  · simp only [hl]; exact hrd
  · show (zs.take n).length ≤ _
    rw [hl]
    omega
  · show st.sl.length ≤ _
    omega
end
end Go.Proofs.YtfehgpjnlkgekaaGreatDoor
