/-
  what this claim needs of: DkT, DkR, DkC1, DkO, DkO2, DkO3 (written by cut.py).
-/
import Derived.Test.YtffalfacakdhkaaGreatDoorDDlStep
import Derived.Test.YtffalfacakdhkaaGreatDoorDDkE
import Derived.Test.YtffalfacakdhkaaGreatDoorDQnC4
import Derived.Test.YtffalfacakdhkaaGreatDoorDForkT
import Derived.Test.YtffalfacakdhkaaGreatDoorDStW
import Derived.Test.YtffalfacakdhkaaGreatDoorDDkLaid
import Derived.Test.YtffalfacakdhkaaGreatDoorDStR
import Derived.Test.YtffalfacakdhkaaGreatDoorDQnJ
namespace Go.Proofs.YtffalfacakdhkaaGreatDoor
open Go.RowKit
set_option linter.unusedVariables false
set_option linter.unusedSimpArgs false

def cleanW : List UInt8 := [99, 108, 101, 97, 110, 32]
def diskW : List UInt8 := [100, 105, 115, 107]
def formatW : List UInt8 := [102, 111, 114, 109, 97, 116]
def openW : List UInt8 := [111, 112, 101, 110]
def checkW : List UInt8 := [99, 104, 101, 99, 107]
def wrongW : List UInt8 := [119, 114, 111, 110, 103, 32]
/-- The numbers that words say. -/
def numsL : List (List UInt8) → Option (List Int)
 | [] => some []
 | w :: r => match stepL (cleanW ++ w) with
  | some y => (numsL r).map (y.n :: ·)
  | none => none
/-- A line that is refused. -/
def wrongL (e n : Int) : List UInt8 := wrongW ++ Lib.itoa e ++ [32] ++ Lib.itoa n ++ [10]
def cat : List (List UInt8) → List UInt8 := fun l => l.flatMap id
def awLs : List (List UInt8) := [[100, 105, 115, 107, 32, 52, 48, 48], [102, 111, 114, 109, 97, 116, 32, 54, 52, 32, 52, 32, 51, 50, 32, 49, 32, 56], [115, 110, 97, 112, 115, 104, 111, 116], [115, 110, 97, 112, 115, 104, 111, 116], [100, 101, 108, 101, 116, 101, 32, 49], [100, 101, 108, 101, 116, 101, 32, 49], [114, 101, 97, 100, 32, 48, 32, 48], [115, 116, 97, 116], [119, 104, 97, 116], []]
def awOs : List (List UInt8) := [[111, 107, 10], [111, 107, 10], [111, 107, 32, 115, 110, 97, 112, 32, 49, 10], [111, 107, 32, 115, 110, 97, 112, 32, 50, 10], [111, 107, 10], [101, 114, 114, 111, 114, 32, 49, 51, 10], [111, 107, 10], [111, 107, 32, 115, 116, 97, 116, 32, 54, 52, 32, 52, 32, 51, 50, 32, 49, 32, 56, 32, 48, 32, 48, 32, 52, 32, 48, 32, 50, 10], [119, 114, 111, 110, 103, 32, 51, 49, 48, 32, 57, 10], []]
def nmLs : List (List UInt8) := [[100, 105, 115, 107, 32, 49], [100, 105, 115, 107, 32, 52, 48, 57, 54], [100, 105, 115, 107, 32, 48], [100, 105, 115, 107, 32, 52, 48, 57, 55], [100, 105, 115, 107, 32, 45, 49], [100, 105, 115, 107, 32, 48, 49], [100, 105, 115, 107], [100, 105, 115, 107, 32, 49, 32, 49], [111, 112, 101, 110, 32, 49], [99, 104, 101, 99, 107], [], [97, 114, 109, 32, 49], [99, 114, 97, 115, 104], [102, 108, 117, 115, 104]]
def nmOs : List (List UInt8) := [[111, 107, 10], [111, 107, 10], [119, 114, 111, 110, 103, 32, 51, 49, 48, 32, 51, 10], [119, 114, 111, 110, 103, 32, 51, 49, 48, 32, 52, 10], [119, 114, 111, 110, 103, 32, 51, 49, 48, 32, 53, 10], [119, 114, 111, 110, 103, 32, 51, 49, 48, 32, 54, 10], [119, 114, 111, 110, 103, 32, 51, 49, 48, 32, 55, 10], [119, 114, 111, 110, 103, 32, 51, 49, 48, 32, 56, 10], [119, 114, 111, 110, 103, 32, 51, 49, 48, 32, 57, 10], [101, 114, 114, 111, 114, 32, 49, 10], [], [111, 107, 10], [111, 107, 10], [101, 114, 114, 111, 114, 32, 49, 10]]
def outOf (os : List (List UInt8)) (k : Nat) : List UInt8 := cat (os.take k)
theorem outOf_succ (os : List (List UInt8)) (k : Nat) (h : k < os.length) : outOf os (k + 1) = outOf os k ++ os.getD k [] := by
 unfold outOf cat
 rw [List.take_add_one, List.getElem?_eq_getElem h, List.flatMap_append, List.getD_eq_getElem?_getD, List.getElem?_eq_getElem h]
 simp
theorem st_snapshot : stepL [115, 110, 97, 112, 115, 104, 111, 116] = some ⟨5, 0, 0, 0, [], []⟩ := by kernel_rfl
theorem st_delete : stepL [100, 101, 108, 101, 116, 101, 32, 49] = some ⟨6, 0, 0, 1, [], []⟩ := by kernel_rfl
theorem st_read : stepL [114, 101, 97, 100, 32, 48, 32, 48] = some ⟨1, 0, 0, 0, [], []⟩ := by kernel_rfl
theorem st_stat : stepL [115, 116, 97, 116] = some ⟨12, 0, 0, 0, [], []⟩ := by kernel_rfl
theorem st_arm : stepL [97, 114, 109, 32, 49] = some ⟨11, 0, 1, 0, [], []⟩ := by kernel_rfl
theorem st_crash : stepL [99, 114, 97, 115, 104] = some ⟨10, 0, 0, 0, [], []⟩ := by kernel_rfl
theorem st_flush : stepL [102, 108, 117, 115, 104] = some ⟨4, 0, 0, 0, [], []⟩ := by kernel_rfl
theorem st_what : stepL [119, 104, 97, 116] = none := by kernel_rfl
theorem w_disk_400 : wordsL [100, 105, 115, 107, 32, 52, 48, 48] = [[100, 105, 115, 107], [52, 48, 48]] := by kernel_rfl
theorem w_format_64_4_32_1_8 : wordsL [102, 111, 114, 109, 97, 116, 32, 54, 52, 32, 52, 32, 51, 50, 32, 49, 32, 56] = [[102, 111, 114, 109, 97, 116], [54, 52], [52], [51, 50], [49], [56]] := by kernel_rfl
theorem w_disk_1 : wordsL [100, 105, 115, 107, 32, 49] = [[100, 105, 115, 107], [49]] := by kernel_rfl
theorem w_disk_4096 : wordsL [100, 105, 115, 107, 32, 52, 48, 57, 54] = [[100, 105, 115, 107], [52, 48, 57, 54]] := by kernel_rfl
theorem w_disk_0 : wordsL [100, 105, 115, 107, 32, 48] = [[100, 105, 115, 107], [48]] := by kernel_rfl
theorem w_disk_4097 : wordsL [100, 105, 115, 107, 32, 52, 48, 57, 55] = [[100, 105, 115, 107], [52, 48, 57, 55]] := by kernel_rfl
theorem w_disk_m1 : wordsL [100, 105, 115, 107, 32, 45, 49] = [[100, 105, 115, 107], [45, 49]] := by kernel_rfl
theorem w_disk_01 : wordsL [100, 105, 115, 107, 32, 48, 49] = [[100, 105, 115, 107], [48, 49]] := by kernel_rfl
theorem w_disk : wordsL [100, 105, 115, 107] = [[100, 105, 115, 107]] := by kernel_rfl
theorem w_disk_1_1 : wordsL [100, 105, 115, 107, 32, 49, 32, 49] = [[100, 105, 115, 107], [49], [49]] := by kernel_rfl
theorem w_open_1 : wordsL [111, 112, 101, 110, 32, 49] = [[111, 112, 101, 110], [49]] := by kernel_rfl
theorem w_check : wordsL [99, 104, 101, 99, 107] = [[99, 104, 101, 99, 107]] := by kernel_rfl
theorem w_snapshot : wordsL [115, 110, 97, 112, 115, 104, 111, 116] = [[115, 110, 97, 112, 115, 104, 111, 116]] := by kernel_rfl
theorem w_delete_1 : wordsL [100, 101, 108, 101, 116, 101, 32, 49] = [[100, 101, 108, 101, 116, 101], [49]] := by kernel_rfl
theorem w_read_0_0 : wordsL [114, 101, 97, 100, 32, 48, 32, 48] = [[114, 101, 97, 100], [48], [48]] := by kernel_rfl
theorem w_stat : wordsL [115, 116, 97, 116] = [[115, 116, 97, 116]] := by kernel_rfl
theorem w_what : wordsL [119, 104, 97, 116] = [[119, 104, 97, 116]] := by kernel_rfl
theorem w_arm_1 : wordsL [97, 114, 109, 32, 49] = [[97, 114, 109], [49]] := by kernel_rfl
theorem w_crash : wordsL [99, 114, 97, 115, 104] = [[99, 114, 97, 115, 104]] := by kernel_rfl
theorem w_flush : wordsL [102, 108, 117, 115, 104] = [[102, 108, 117, 115, 104]] := by kernel_rfl
theorem n_disk_400 : numsL [[52, 48, 48]] = some [400] := by kernel_rfl
theorem n_format_64_4_32_1_8 : numsL [[54, 52], [52], [51, 50], [49], [56]] = some [64, 4, 32, 1, 8] := by kernel_rfl
theorem n_disk_1 : numsL [[49]] = some [1] := by kernel_rfl
theorem n_disk_4096 : numsL [[52, 48, 57, 54]] = some [4096] := by kernel_rfl
theorem n_disk_0 : numsL [[48]] = some [0] := by kernel_rfl
theorem n_disk_4097 : numsL [[52, 48, 57, 55]] = some [4097] := by kernel_rfl
theorem n_disk_m1 : numsL [[45, 49]] = some [(-1)] := by kernel_rfl
theorem n_disk_01 : numsL [[48, 49]] = none := by kernel_rfl
theorem n_disk : numsL [] = some [] := by kernel_rfl
theorem n_disk_1_1 : numsL [[49], [49]] = some [1, 1] := by kernel_rfl
theorem n_open_1 : numsL [[49]] = some [1] := by kernel_rfl
theorem n_check : numsL [] = some [] := by kernel_rfl
theorem t_ok : tellL 0 0 [0, 0, 0, 0, 0, 0, 0, 0, 0] [] [] = [111, 107] := by kernel_rfl
theorem t_snap1 : tellL 0 1 [0, 0, 0, 0, 0, 0, 0, 0, 0] [] [] = [111, 107, 32, 115, 110, 97, 112, 32, 49] := by kernel_rfl
theorem t_snap2 : tellL 0 2 [0, 0, 0, 0, 0, 0, 0, 0, 0] [] [] = [111, 107, 32, 115, 110, 97, 112, 32, 50] := by kernel_rfl
theorem t_e13 : tellL 13 0 [0, 0, 0, 0, 0, 0, 0, 0, 0] [] [] = [101, 114, 114, 111, 114, 32, 49, 51] := by kernel_rfl
theorem t_e1 : tellL 1 0 [0, 0, 0, 0, 0, 0, 0, 0, 0] [] [] = [101, 114, 114, 111, 114, 32, 49] := by kernel_rfl
theorem t_stat : tellL 0 0 [64, 4, 32, 1, 8, 0, 0, 4, 0] [2] [] = [111, 107, 32, 115, 116, 97, 116, 32, 54, 52, 32, 52, 32, 51, 50, 32, 49, 32, 56, 32, 48, 32, 48, 32, 52, 32, 48, 32, 50] := by kernel_rfl
theorem wr_310_3 : wrongL 310 3 = [119, 114, 111, 110, 103, 32, 51, 49, 48, 32, 51, 10] := by kernel_rfl
theorem wr_310_4 : wrongL 310 4 = [119, 114, 111, 110, 103, 32, 51, 49, 48, 32, 52, 10] := by kernel_rfl
theorem wr_310_5 : wrongL 310 5 = [119, 114, 111, 110, 103, 32, 51, 49, 48, 32, 53, 10] := by kernel_rfl
theorem wr_310_6 : wrongL 310 6 = [119, 114, 111, 110, 103, 32, 51, 49, 48, 32, 54, 10] := by kernel_rfl
theorem wr_310_7 : wrongL 310 7 = [119, 114, 111, 110, 103, 32, 51, 49, 48, 32, 55, 10] := by kernel_rfl
theorem wr_310_8 : wrongL 310 8 = [119, 114, 111, 110, 103, 32, 51, 49, 48, 32, 56, 10] := by kernel_rfl
theorem wr_310_9 : wrongL 310 9 = [119, 114, 111, 110, 103, 32, 51, 49, 48, 32, 57, 10] := by kernel_rfl
theorem wr_3_0 : wrongL 3 0 = [119, 114, 111, 110, 103, 32, 51, 32, 48, 10] := by kernel_rfl
end Go.Proofs.YtffalfacakdhkaaGreatDoor
namespace Go.Proofs.YtffalfacakdhkaaGreatDoor
open Go.RowKit Go.Maps Go.Shelf
set_option linter.unusedVariables false
set_option linter.unusedSimpArgs false
attribute [local go_sem] Oper.semAt_some

theorem wpIn_range_none {n : Nat} {g : Operand} {ps : Array Tmp} {assign body : Code} {Q : Exit → Act → World → Prop} {a : Act} {w : World} {gf : FuncId} {lb : Array Value}
  (hg : a.eval g = .func (.func gf) #[] lb) (eg : ∀ args w, (callFunc gf args).run Tryz.prog w = .ok (.enter gf args) w)
  (hcall : ∀ (l : Nat) (W : World), Below w.heap.size w W → Calls Tryz.prog gf (#[.func (.yield l) #[] #[]] ++ lb) W fun e W' => (∃ v, e = .returned v) ∧ Below W.heap.size W W')
  (hdone : ∀ (D : Nat) (W : World), w.heap.size ≤ D → Below w.heap.size w W → W.heap[D]? = some (.deferred (some [])) → Q .normal { a with defers := { target := .collected D, args := #[] } :: a.defers } W) :
  (Code.rangeFunc g ps assign body).wpIn Fence.wide n Tryz.prog Q a w := by
 refine wpIn_rangeFunc ?_
 intro fn hfn
 rw [show Fence.wide.round = none from rfl]
 obtain ⟨rec, hrec⟩ : ∃ rec : LoopState → Option Code → Loop, rec = fun st pe => { state := st, pending := pe, fn, tmps := a.tmps, params := ps, assign, body, defers := w.heap.size } := ⟨_, rfl⟩
 obtain ⟨W1, hW1⟩ : ∃ W1, (w.alloc (.deferred (some []))).alloc (.loop (rec .ready none)) = W1 := ⟨_, rfl⟩
 have hL1 : W1.heap[w.heap.size + 1]? = some (.loop (rec .ready none)) := by
  rw [← hW1]; have := World.alloc_heap_new (w.alloc (.deferred (some []))) (.loop (rec .ready none)); rwa [World.size_alloc] at this
 have hK1 : W1.heap[w.heap.size]? = some (.deferred (some [])) := by
  rw [← hW1]; exact (Below.heap_alloc _ _ _ (by simp)).trans (World.alloc_heap_new w _)
 have hB1 : Below w.heap.size w W1 := by rw [← hW1]; exact ((Below.refl _ w).alloc (Nat.le_refl _) _).alloc (by simp) _
 have hz1 : W1.heap.size = w.heap.size + 2 := by rw [← hW1]; simp
 refine ⟨w.heap.size + 1, [{ target := .collected w.heap.size, args := #[] }], W1, { target := .fn (.func gf) lb, args := #[.func (.yield (w.heap.size + 1)) #[] #[]] }, W1, gf,
  #[.func (.yield (w.heap.size + 1)) #[] #[]] ++ lb, W1, ?_, ?_, ?_, ?_, fun h => (by cases h), ?_⟩
 ·rw [← hW1, hrec]; exact run_enterLoop_outer _ _ _ _ _
 ·simp only [resolve, hg]
  simp [go_sem]
 ·intro f' hf'; trivial
 ·simp [invoke, go_sem, eg]
 ·refine (callsIn_wide.2 (hcall (w.heap.size + 1) W1 hB1)).mono ?_
  rintro e W2 ⟨⟨v, rfl⟩, hb⟩
  have hl := (hb.block (w.heap.size + 1) (by omega)).trans hL1
  have hkk := (hb.block w.heap.size (by omega)).trans hK1
  have hb2 : Below w.heap.size w W2 := below_chain hB1 hb
  refine ⟨none, _, by have := run_endLoop (P := Tryz.prog) hl (by rw [hrec]; simp); rw [hrec] at this; exact this, hdone _ _ (Nat.le_refl _) (hb2.grown (grownBy_putObj' _ _ _) hb2.size (fun k hk => by injection hk with hk; omega)) ((World.putObj_heap_other (by omega)).trans hkk)⟩
/-- A drawn region, its order a tree, whatever order to one end. -/
theorem wp_region_tr {P : Program} {l : List Oper} {Q : Exit → Act → World → Prop} {id : Nat} {a : Act} {w : World} (S : Nat → World → Prop) (es : List Nat) (ix : OrdT) {α : Type} (R : α → World → Prop) (F : Act → α → Act) (hm : P.follows .mixedOrders = true) (hlen : ix.depth = l.toArray.size)
  (hok : okT l.toArray es ix 0 (Array.replicate l.toArray.size false) = true) (hd : doneOf es (Array.replicate l.toArray.size false) = 0) (hs : Region.noSelect l.toArray = true)
  (hS : S 0 w.drew) (h : wpQt P l (fun e a' w' => e = .normal ∧ ∃ v, a' = F a v ∧ R v w') S ix 0 a w.drew)
  (H : ∀ v w', R v w' → Q .normal (F a v) w') : (Code.region id l.toArray true).wp P Q a w := by
 refine Code.wp_mono (Q := fun e a' w' => e = .normal ∧ ∃ v, a' = F a v ∧ R v w') ?_ ?_
 ·rintro e a' w' ⟨rfl, v, rfl, hR⟩
  exact H v w' hR
 ·exact wp_region_qt es S ix hm hlen hok hd hs (fun c b t v w h => by cases h.1) hS h
/-- A drawn region in one order, in a function whose body holds a range over a function. -/
theorem wp_region_qn {P : Program} {l : List Oper} {Q : Exit → Act → World → Prop} {id : Nat} {a : Act} {w : World} (S : Nat → World → Prop) (ix : List (Nat × Option Nat)) (hm : P.follows .mixedOrders = true) (hlen : ix.length = l.toArray.size)
  (hok : okOrd l.toArray (actors ix) ix 0 (Array.replicate l.toArray.size false) = true) (hd : doneOf (actors ix) (Array.replicate l.toArray.size false) = 0) (hs : Region.noSelect l.toArray = true)
  (_ : ∀ (_ _ _ _ _ : Unit), True → True)
  (hS : S 0 w.drew) (h : wpQs P l (fun e a' w' => e = .normal ∧ Q .normal a' w') S (ix.map fun p => (l.getD p.1 default, p.2)) 0 a w.drew) : (Code.region id l.toArray true).wp P Q a w := by
 refine Code.wp_mono (Q := fun e a' w' => e = .normal ∧ Q .normal a' w') ?_ ?_
 ·rintro e a' w' ⟨rfl, h⟩
  exact h
 ·exact wp_region_qs S ix hm hlen hok hd hs (fun c b t v w h => by cases h.1) hS h
end Go.Proofs.YtffalfacakdhkaaGreatDoor
namespace Go.Proofs.YtffalfacakdhkaaGreatDoor
open Go.RowKit Go.Maps Go.Shelf
set_option linter.unusedVariables false
set_option linter.unusedSimpArgs false
theorem taleV_info (e sn : Int) (B S : Value) (v0 v1 v2 v3 v4 v5 v6 v7 v8 : Int) : (Tryz.prog.info? 70).map (·.size) = some (taleV e sn B v0 v1 v2 v3 v4 v5 v6 v7 v8 S).size := by kernel_rfl
theorem str_addL {x y : Operand} {o : Oper} {t2 : TypeId} {a : Act} {w : World} (a1 b1 : List UInt8) (ho : o.op = .binOp .add 9 x y t2) (hx : a.eval x = .string ⟨a1.toArray⟩) (hy : a.eval y = .string ⟨b1.toArray⟩) (h : a1.length + b1.length ≤ 1000000) : (execOp a.eval o).run Tryz.prog w = .ok (.value (.string ⟨(a1 ++ b1).toArray⟩)) w := by
 have s1 : ¬ 9223372036854775807 < (⟨a1.toArray⟩ : ByteArray).size + (⟨b1.toArray⟩ : ByteArray).size := by rw [ba_len, ba_len]; omega
 rw [← cat_list]
 generalize (⟨a1.toArray⟩ : ByteArray) = s at *
 generalize (⟨b1.toArray⟩ : ByteArray) = t at *
 unfold execOp
 simp only [ho, hx, hy]
 go_simp
section
variable {w0 W : World} {db : Nat} {v p : Value} {out : List UInt8} {dp xp : Value} {n : Int}
set_option maxRecDepth 100000 in
set_option maxHeartbeats 1000000 in
theorem dsk_tell {E : Value → World → Prop} (hE : EnvOk E) (ht : LnT w0) (h : DkA w0 W db v p out dp xp n) (he : E v W) (hl : out.length ≤ 90000000)
  (e sn : Int) (v0 v1 v2 v3 v4 v5 v6 v7 v8 : Int) (SA : Option Addr) (snn sc : Nat) (sl : List Int) (hS : RdI .i64 W SA snn sl) (hsl : ∀ z ∈ sl, i64b z) (he2 : i64b e) (hsn : i64b sn) (hnum : ∀ z ∈ [v0, v1, v2, v3, v4, v5, v6, v7, v8], i64b z) (hsnn : snn ≤ 100000) (T : List UInt8) (hT : tellL e sn [v0, v1, v2, v3, v4, v5, v6, v7, v8] sl [] = T) (hTl : T.length ≤ 1000) :
  Calls Tryz.prog 26 #[.pointer (some ⟨db, 0, none⟩), .agg (taleV e sn (.slice none 0 0) v0 v1 v2 v3 v4 v5 v6 v7 v8 (.slice SA snn sc))] W fun r w' => r = .returned (.int .i64 0) ∧ WrtB E w0 db (out ++ (T ++ [10])) dp xp n W w' := by
 have HT := yH (fun W1 (hb : Below W.heap.size W W1) => tell_any e sn [] none SA 0 0 snn sc v0 v1 v2 v3 v4 v5 v6 v7 v8 sl W1 ⟨rfl, fun h => absurd h (by omega)⟩ (hS.below hb) (ht.below (below_chain h.low hb)) (by intro z hz; cases hz) hsl he2 hsn hnum (by omega) hsnn)
 rw [hT] at HT
 obtain ⟨tv, htv⟩ : ∃ tv, tv = taleV e sn (.slice none 0 0) v0 v1 v2 v3 v4 v5 v6 v7 v8 (.slice SA snn sc) := ⟨_, rfl⟩
 have hinfo : (Tryz.prog.info? 70).map (·.size) = some tv.toList.length := by rw [htv]; exact taleV_info _ _ _ _ _ _ _ _ _ _ _ _ _
 rw [← htv] at HT ⊢
 have HI := yH hinfo
 have H := yH h
 have HE := yH he
 have HW := yH (fun W1 (h1 : DkA w0 W1 db v p out dp xp n) (h2 : E v W1) => dsk_write hE h1 h2 (T ++ [10]) (by simp) (by simp; omega))
 have HB := yH (fun W1 (hb : Below W.heap.size W W1) => hE.below he hb)
 clear h he hE ht hS hsl he2 hsn hnum hsnn hT htv hinfo hl
 go_enter Tryz.func26, Tryz.ntmps26
 go_upto_region 1 with (refine wpl_box rfl 70 (.tmp 1) rfl _ rfl ?_; intro w1 hk hg hz; have K1 := yH (show Blk w1 W.heap.size 70 tv from hk); have L1 := yH (bl_n (Below.refl _ W) hg); clear hk hg hz; simp only [Act.put, yA, yB, yC])
 have L1d := yH (show Below W.heap.size W w1.drew from L1.out.drew)
 refine wp_region_qs (fun _ w' => w'.rangeAt W.heap.size 0 tv.toList) [(0, some 2), (1, some 2), (2, some 1), (3, some 1), (4, none), (5, some 1), (6, none)] (by kernel_rfl) (by kernel_rfl) (by kernel_rfl) (by kernel_rfl) (by kernel_rfl) (fun _ _ _ _ _ h => h) (K1.out.drew.range) ?_
 simp only [yD, yE, yF, yG]
 (repeat (first | ((refine qs_row (by rfl) 70 (.tmp 3) (by with_reducible rfl) W.heap.size 0 (by rfl) tv.toList _ (fun j w' _ h2 h => h) Tryz.underlying70 rfl HI.out ?_); simp only [Act.put, yA, yB, yC]) | (refine qs_mid (v := ?_) (by rfl) ?_ ?_; rotate_left 1; (· (intro j w' hj1 hj2 hS; go_simp; (try (simp only [↓IntWalk.iteOmega]; go_simp)); (try simp (disch := omega) only [IntWalk.i64_in]); try with_reducible rfl)); simp only [Act.put, yA, yB, yC]) | (refine qs_skip (by rfl) ?_; simp only [Act.put, yA, yB, yC])))
 refine qs_act ?_
 go_wp2_with (go_at_call 40; refine (HT.out _ L1d.out).mono ?_; rintro r w2 ⟨rfl, hb⟩; have L2 := yH (below_chain L1d.out hb); have L2' := yH (show Below w1.drew.heap.size w1.drew w2 from hb); have K2 := yH (K1.out.drew.below hb K1.out.drew.lt); clear hb)
 refine ⟨K2.out.range, ?_⟩
 (repeat (first | (refine qs_mid (v := ?_) (by rfl) ?_ ?_; rotate_left 1; (· (intro j w' hj1 hj2 hS; go_simp; (try (simp only [↓IntWalk.iteOmega]; go_simp)); (try simp (disch := omega) only [IntWalk.i64_in]); try with_reducible rfl)); simp only [Act.put, yA, yB, yC]) | (refine qs_skip (by rfl) ?_; simp only [Act.put, yA, yB, yC])))
 have eT : (⟨T.toArray⟩ : ByteArray) ++ ⟨#[10]⟩ = ⟨(T ++ [10]).toArray⟩ := cat_list T [10]
 rw [eT]
 refine qs_act ?_
 go_wp2_with (go_at_call 11; refine (HW.out _ (H.out.below L2.out) (HB.out _ L2.out)).mono ?_; rintro r w3 ⟨⟨x, rfl⟩, v', p', hD, hEv, hz⟩; have D3 := yH hD; have E3 := yH hEv; have Z3 := yH hz; clear hD hEv hz)
 refine ⟨(Z3.out.blk _ _ _ (K1.out.drew.below L2'.out K1.out.drew.lt) (by decide)).range, ?_⟩
 (repeat (first | (refine qs_mid (v := ?_) (by rfl) ?_ ?_; rotate_left 1; (· (intro j w' hj1 hj2 hS; go_simp; (try (simp only [↓IntWalk.iteOmega]; go_simp)); (try simp (disch := omega) only [IntWalk.i64_in]); try with_reducible rfl)); simp only [Act.put, yA, yB, yC]) | (refine qs_skip (by rfl) ?_; simp only [Act.put, yA, yB, yC])))
 refine qs_nil ?_
 go_wp2_with fail
 go_ret
 exact ⟨rfl, _, _, D3.out, E3.out, (KpL.below L2.out).trans Z3.out⟩
set_option maxRecDepth 100000 in
set_option maxHeartbeats 1000000 in
theorem dsk_wrong {E : Value → World → Prop} (hE : EnvOk E) (ht : LnT w0) (h : DkA w0 W db v p out dp xp n) (he : E v W) (hl : out.length ≤ 90000000) {b : Nat} (hb : Blk W b 30 #[.pointer (some ⟨db, 0, none⟩)]) (e : Int) (hee : i64b e) (hn : i64b n) (hT : (wrongL e n).length ≤ 1000) :
  Calls Tryz.prog 10 #[.int .i64 e, .pointer (some ⟨b, 0, none⟩)] W fun r w' => r = .returned (.tuple #[]) ∧ WrtB E w0 db (out ++ wrongL e n) dp xp n W w' := by
 have HI := yH (fun W1 (hb : Below W.heap.size W W1) (z : Int) (hz : i64b z) => itoa_any (w := W1) z hz (ht.below (below_chain h.low hb)))
 have H := yH h
 have HB := yH hb
 have HZ := yH (And.intro hee hn)
 have HW := yH (fun W1 (h1 : DkA w0 W1 db v p out dp xp n) (h2 : E v W1) => dsk_write hE h1 h2 (wrongL e n) (by unfold wrongL; simp) (by omega))
 have HL := yH (fun W1 (hb : Below W.heap.size W W1) => hE.below he hb)
 have LD := yH (Below.refl W.heap.size W).drew
 have hlen : (wrongL e n).length = 6 + (Lib.itoa e).length + 1 + (Lib.itoa n).length + 1 := by unfold wrongL wrongW; simp; omega
 have hi1 : (Lib.itoa e).length ≤ 1000 := by omega
 have hi2 : (Lib.itoa n).length ≤ 1000 := by omega
 have HK := yH (show ∀ W', Below W.heap.size W W' → W'.cell? ⟨b, 0, none⟩ = some (.pointer (some ⟨db, 0, none⟩)) ∧ W'.cell? ⟨db, 4, none⟩ = some (.int .i64 n) from fun W' hw => ⟨(hb.below hw hb.lt).cell rfl, (h.below hw).blk.cell rfl⟩)
 have HI1 := yH (fun W1 (hb : Below W.heap.size W W1) => HI.out W1 hb e HZ.out.1)
 have HI2 := yH (fun W1 (hb : Below W.heap.size W W1) => HI.out W1 hb n HZ.out.2)
 have HTT := yH (show wrongW ++ Lib.itoa e ++ [32] ++ Lib.itoa n ++ [10] = wrongL e n from rfl)
 clear h he hE ht hl hb hee hn hT hlen HI HZ
 generalize wrongL e n = T at *
 generalize Lib.itoa e = ie at *
 generalize Lib.itoa n = jn at *
 go_enter Tryz.func10, Tryz.ntmps10
 go_upto_region 0 with fail
 refine wp_region_qs (fun _ w' => w'.cell? ⟨b, 0, none⟩ = some (.pointer (some ⟨db, 0, none⟩)) ∧ w'.cell? ⟨db, 4, none⟩ = some (.int .i64 n)) [(0, some 3), (1, some 3), (2, some 2), (3, some 2), (7, some 3), (8, some 3), (9, some 3), (10, some 2), (4, none), (5, some 3), (6, some 3), (11, none), (12, some 3), (13, some 2), (14, none)] (by kernel_rfl) (by kernel_rfl) (by kernel_rfl) (by kernel_rfl) (by kernel_rfl) (fun _ _ _ _ _ h => h) (HK.out _ LD.out) ?_
 simp only [yD, yE, yF, yG]
 (repeat (first | (refine qs_mid (v := ?_) (by rfl) ?_ ?_; rotate_left 1; (· (intro j w' hj1 hj2 hS; go_simp; (try (simp only [↓IntWalk.iteOmega]; go_simp)); (try simp (disch := omega) only [IntWalk.i64_in]); try with_reducible rfl)); simp only [Act.put, yA, yB, yC]) | (refine qs_skip (by rfl) ?_; simp only [Act.put, yA, yB, yC])))
 refine qs_act ?_
 go_wp2_with (go_at_call 12; refine (HI1.out _ LD.out).mono ?_; rintro r w1 ⟨rfl, hb⟩; have L1 := yH (below_chain LD.out hb); clear hb)
 refine ⟨HK.out _ L1.out, ?_⟩
 (repeat (first | ((first | (refine qs_run (v := .string ⟨(wrongW ++ ie).toArray⟩) (by rfl) (fun j w' _ => str_addL (wrongW) (ie) (by rfl) (by rfl) (by rfl) (by simp [wrongW]; omega)) ?_) | (refine qs_run (v := .string ⟨(wrongW ++ ie ++ [32]).toArray⟩) (by rfl) (fun j w' _ => str_addL (wrongW ++ ie) ([32]) (by rfl) (by rfl) (by rfl) (by simp [wrongW]; omega)) ?_)); simp only [Act.put, yA, yB, yC]) | (refine qs_mid (v := ?_) (by rfl) ?_ ?_; rotate_left 1; (· (intro j w' hj1 hj2 hS; go_simp; (try (simp only [↓IntWalk.iteOmega]; go_simp)); (try simp (disch := omega) only [IntWalk.i64_in]); try with_reducible rfl)); simp only [Act.put, yA, yB, yC]) | (refine qs_skip (by rfl) ?_; simp only [Act.put, yA, yB, yC])))
 refine qs_act ?_
 go_wp2_with (go_at_call 12; refine (HI2.out _ L1.out).mono ?_; rintro r w2 ⟨rfl, hb⟩; have L2 := yH (below_chain L1.out hb); clear hb)
 refine ⟨HK.out _ L2.out, ?_⟩
 (repeat (first | ((first | (refine qs_run (v := .string ⟨(wrongW ++ ie ++ [32] ++ jn).toArray⟩) (by rfl) (fun j w' _ => str_addL (wrongW ++ ie ++ [32]) (jn) (by rfl) (by rfl) (by rfl) (by simp [wrongW]; omega)) ?_) | (refine qs_run (v := .string ⟨(wrongW ++ ie ++ [32] ++ jn ++ [10]).toArray⟩) (by rfl) (fun j w' _ => str_addL (wrongW ++ ie ++ [32] ++ jn) ([10]) (by rfl) (by rfl) (by rfl) (by simp [wrongW]; omega)) ?_)); simp only [Act.put, yA, yB, yC]) | (refine qs_mid (v := ?_) (by rfl) ?_ ?_; rotate_left 1; (· (intro j w' hj1 hj2 hS; go_simp; (try (simp only [↓IntWalk.iteOmega]; go_simp)); (try simp (disch := omega) only [IntWalk.i64_in]); try with_reducible rfl)); simp only [Act.put, yA, yB, yC]) | (refine qs_skip (by rfl) ?_; simp only [Act.put, yA, yB, yC])))
 rw [HTT.out]
 refine qs_act ?_
 go_wp2_with (go_at_call 11; refine (HW.out _ (H.out.below L2.out) (HL.out _ L2.out)).mono ?_; rintro r w3 ⟨⟨x, rfl⟩, v', p', hD, hEv, hz⟩; have D3 := yH hD; have E3 := yH hEv; have Z3 := yH hz; clear hD hEv hz)
 refine ⟨⟨(Z3.out.blk _ _ _ (HB.out.below L2.out HB.out.lt) (by decide)).cell rfl, D3.out.blk.cell rfl⟩, ?_⟩
 (repeat (first | (refine qs_mid (v := ?_) (by rfl) ?_ ?_; rotate_left 1; (· (intro j w' hj1 hj2 hS; go_simp; (try (simp only [↓IntWalk.iteOmega]; go_simp)); (try simp (disch := omega) only [IntWalk.i64_in]); try with_reducible rfl)); simp only [Act.put, yA, yB, yC]) | (refine qs_skip (by rfl) ?_; simp only [Act.put, yA, yB, yC])))
 refine qs_nil ?_
 go_wp2_with fail
 go_end0
 exact ⟨rfl, _, _, D3.out, E3.out, (KpL.below L2.out).trans Z3.out⟩
end
end Go.Proofs.YtffalfacakdhkaaGreatDoor
namespace Go.Proofs.YtffalfacakdhkaaGreatDoor
open Go.RowKit Go.Maps
set_option linter.unusedVariables false
set_option linter.unusedSimpArgs false
def bZ (l : List Int) : List Value := l.map (Value.int .u8) ++ List.replicate (64 - l.length) (Value.int .u8 0)
theorem bZ_len (l : List Int) (h : l.length ≤ 64) : (bZ l).length = 64 := by
 unfold bZ
 rw [List.length_append, List.length_map, List.length_replicate]
 omega
theorem bZ_set (l : List Int) (z : Int) (h : l.length < 64) : (bZ l).toArray.setIfInBounds l.length (.int .u8 z) = (bZ (l ++ [z])).toArray := by
 have e : (bZ l).set l.length (.int .u8 z) = bZ (l ++ [z]) := by
  unfold bZ
  rw [List.set_append_right _ _ (by simp), List.length_map, Nat.sub_self, List.map_append, List.length_append]
  have : List.replicate (64 - l.length) (Value.int .u8 0) = Value.int .u8 0 :: List.replicate (64 - (l.length + 1)) (Value.int .u8 0) := by
   rw [show 64 - l.length = (64 - (l.length + 1)) + 1 by omega, List.replicate_succ]
  rw [this]
  simp
 rw [← e]
 simp
def bufC (v : Value) : Array Value := #[v, .int .i64 0, .int .i8 0]
/-- A writer at wb, made at B or behind it, whose buffer holds l. -/
def WbI (B : Nat) (W : World) (wb : Nat) (l : List Int) : Prop := B ≤ wb ∧ B ≤ W.heap.size ∧
 ((l = [] ∧ Blk W wb 389 (bufC (.slice none 0 0))) ∨
 (∃ g, B ≤ g ∧ 0 < l.length ∧ l.length ≤ 60 ∧ Blk W wb 389 (bufC (.slice (some ⟨g, 0, none⟩) l.length 64)) ∧ Blk W g 5 (bZ l).toArray))
theorem WbI.below {B : Nat} {W W' : World} {wb : Nat} {l : List Int} (h : WbI B W wb l) (hb : Below W.heap.size W W') : WbI B W' wb l := by
 obtain ⟨h0, hB, h⟩ := h
 refine ⟨h0, Nat.le_trans hB hb.size, ?_⟩
 rcases h with ⟨h1, h2⟩ | ⟨g, hg, h1, h2, h3, h4⟩
 ·exact .inl ⟨h1, h2.below hb h2.lt⟩
 ·exact .inr ⟨g, hg, h1, h2, h3.below hb h3.lt, h4.below hb h4.lt⟩
section
variable {W : World} {wb : Nat}
theorem bf_len (n : Nat) (A : Option Addr) (c : Nat) (h : Blk W wb 389 (bufC (.slice A n c))) (hn : n ≤ 1000) : Calls Tryz.prog 392 #[.pointer (some ⟨wb, 0, none⟩)] W fun e w' => e = .returned (.int .i64 (n : Int)) ∧ W.drew = w' := by
 have c0 : W.cell? ⟨wb, 0, none⟩ = some (.slice A n c) := h.cell rfl
 have c1 : W.cell? ⟨wb, 1, none⟩ = some (.int .i64 0) := h.cell rfl
 clear h
 go_enter Tryz.func392, Tryz.ntmps392
 go_wp2
 refine wp_region_qs (fun _ w' => w'.cell? ⟨wb, 0, none⟩ = some (.slice A n c) ∧ w'.cell? ⟨wb, 1, none⟩ = some (.int .i64 0)) [(0, some 0), (1, some 0), (2, some 0), (3, some 0), (4, some 0), (5, some 0), (6, some 0), (7, some 0), (8, some 0), (9, some 0), (10, some 0)] (by kernel_rfl) (by kernel_rfl) (by kernel_rfl) (by kernel_rfl) (by kernel_rfl) (fun _ _ _ _ _ h => h) ⟨c0, c1⟩ ?_
 simp only [yD, yE, yF, yG]
 (repeat (first | (refine qs_mid (v := ?_) (by rfl) ?_ ?_; rotate_left 1; (· (intro j w' hj1 hj2 hS; go_simp; (try (simp only [↓IntWalk.iteOmega]; go_simp)); (try simp (disch := omega) only [IntWalk.i64_in]); try with_reducible rfl)); simp only [Act.put, yA, yB, yC]) | (refine qs_skip (by rfl) ?_; simp only [Act.put, yA, yB, yC])))
 refine qs_nil ?_
 go_wp2
 go_ret
 exact ⟨rfl, rfl⟩
theorem bf_bytes (n : Nat) (b : Nat) (c : Nat) (h : Blk W wb 389 (bufC (.slice (some ⟨b, 0, none⟩) n c))) (hn : n ≤ c) (hn2 : c ≤ 1000) (hn0 : 0 < n) : Calls Tryz.prog 267 #[.pointer (some ⟨wb, 0, none⟩)] W fun e w' => e = .returned (.slice (some ⟨b, 0, none⟩) n c) ∧ W.drew = w' := by
 have c0 : W.cell? ⟨wb, 0, none⟩ = some (.slice (some ⟨b, 0, none⟩) n c) := h.cell rfl
 have c1 : W.cell? ⟨wb, 1, none⟩ = some (.int .i64 0) := h.cell rfl
 clear h
 go_enter Tryz.func267, Tryz.ntmps267
 go_wp2
 refine wp_region_qs (fun _ w' => w'.cell? ⟨wb, 0, none⟩ = some (.slice (some ⟨b, 0, none⟩) n c) ∧ w'.cell? ⟨wb, 1, none⟩ = some (.int .i64 0)) [(0, some 0), (1, some 0), (2, some 0), (3, some 0), (4, some 0), (5, some 0), (6, some 0), (7, some 0), (8, some 0), (9, some 0)] (by kernel_rfl) (by kernel_rfl) (by kernel_rfl) (by kernel_rfl) (by kernel_rfl) (fun _ _ _ _ _ h => h) ⟨c0, c1⟩ ?_
 simp only [yD, yE, yF, yG]
 (repeat (first | (refine qs_mid (v := ?_) (by rfl) ?_ ?_; rotate_left 1; (· (intro j w' hj1 hj2 hS; go_simp; (try (simp only [↓IntWalk.iteOmega]; go_simp)); (try simp (disch := omega) only [IntWalk.i64_in]); try with_reducible rfl)); simp only [Act.put, yA, yB, yC]) | (refine qs_skip (by rfl) ?_; simp only [Act.put, yA, yB, yC])))
 refine qs_nil ?_
 go_wp2
 go_ret
 exact ⟨rfl, rfl⟩
theorem bf_try_no (h : Blk W wb 389 (bufC (.slice none 0 0))) : Calls Tryz.prog 330 #[.pointer (some ⟨wb, 0, none⟩), .int .i64 1] W fun e w' => e = .returned (.tuple #[.int .i64 0, .bool false]) ∧ W = w' := by
 have c0 : W.cell? ⟨wb, 0, none⟩ = some (.slice none 0 0) := h.cell rfl
 clear h
 go_enter Tryz.func330, Tryz.ntmps330
 go_wp2
 go_ret2
 exact ⟨rfl, rfl⟩
theorem info_sl : (Tryz.prog.info? 25).map (·.size) = some 1 := by kernel_rfl
theorem info_i8 : (Tryz.prog.info? 385).map (·.size) = some 1 := by kernel_rfl
theorem bf_try (n b : Nat) (h : Blk W wb 389 (bufC (.slice (some ⟨b, 0, none⟩) n 64))) (hn : n ≤ 60) (hn0 : 0 < n) : Calls Tryz.prog 330 #[.pointer (some ⟨wb, 0, none⟩), .int .i64 1] W fun e w' => e = .returned (.tuple #[.int .i64 (n : Int), .bool true]) ∧ Blk w' wb 389 (bufC (.slice (some ⟨b, 0, none⟩) (n + 1) 64)) ∧ Tch [wb] W w' := by
 have c0 : W.cell? ⟨wb, 0, none⟩ = some (.slice (some ⟨b, 0, none⟩) n 64) := h.cell rfl
 have H := yH h
 have e1 : (1 : Int) ≤ 64 - (n : Int) := by omega
 clear h
 go_enter Tryz.func330, Tryz.ntmps330
 go_wp2_with (refine wpl_setD rfl 25 (.tmp 31) (.tmp 29) (by rfl) wb 0 (.slice (some ⟨b, 0, none⟩) (n + 1) 64) (by rfl) (by rfl) _ _ H.out info_sl (by show 0 < 3; omega) (by rfl) (by rfl) ?_; intro w1 hb hg hz; have B1 := yH (show Blk w1 wb 389 (bufC (.slice (some ⟨b, 0, none⟩) (n + 1) 64)) from hb); have T1 := yH (Tch.one hg); clear hb hg hz; simp only [Act.put, yA, yB, yC])
 go_ret2
 exact ⟨rfl, B1.out, T1.out⟩
end
end Go.Proofs.YtffalfacakdhkaaGreatDoor
namespace Go.Proofs.YtffalfacakdhkaaGreatDoor
open Go.RowKit Go.Maps
set_option linter.unusedVariables false
set_option linter.unusedSimpArgs false
section
variable {W : World} {wb : Nat}
theorem sl_eql (w : World) : (binOp BinOp.eql 25 (.slice none 0 0) (.slice none 0 0)).run Tryz.prog w = .ok (.bool true) w := by kernel_rfl
set_option maxRecDepth 100000 in
theorem bf_grow (h : Blk W wb 389 (bufC (.slice none 0 0))) : Calls Tryz.prog 331 #[.pointer (some ⟨wb, 0, none⟩), .int .i64 1] W fun e w' => e = .returned (.int .i64 0) ∧ ∃ g, W.heap.size ≤ g ∧ Blk w' wb 389 (bufC (.slice (some ⟨g, 0, none⟩) 1 64)) ∧ Blk w' g 5 (bZ [0]).toArray ∧ Tch [wb] W w' := by
 have H := yH h.drew
 have HL := yH (bf_len 0 none 0 h (by omega))
 have HT := yH (bf_try_no h.drew)
 have c1 : W.drew.cell? ⟨wb, 1, none⟩ = some (.int .i64 0) := h.drew.cell rfl
 have c0 : W.drew.cell? ⟨wb, 0, none⟩ = some (.slice none 0 0) := h.drew.cell rfl
 clear h
 go_enter Tryz.func331, Tryz.ntmps331
 go_upto_region 7 with (first
  | (go_at_call 392; refine HL.out.mono ?_; rintro e w1 ⟨rfl, rfl⟩)
  | (go_at_call 330; refine HT.out.mono ?_; rintro e w1 ⟨rfl, rfl⟩))
 go_wp2_with (first
  | (with_reducible refine wpl_valD (v := .bool true) (by kernel_rfl) (cmpD (u := .slice none 0 0) (v := .slice none 0 0) (b := .eql) (t := 25) (x := .tmp 33) (y := .const (.slice none 0 0)) (by with_reducible rfl) (by kernel_rfl) (by kernel_rfl) (by kernel_rfl) (sl_eql _)) ?_; simp only [Act.put, yA, yB, yC])
  | (refine wpl_mkD rfl (.tmp 40) (.const (.int .i64 64)) (by rfl) 1 64 (by rfl) (by rfl) (by omega) (by omega) ?_; intro w2 hb hg hz; have B2 := yH hb; have L2 := yH (bl_n (Below.refl _ W.drew) hg); clear hb hg hz; simp only [Act.put, yA, yB, yC])
  | (refine wpl_setD rfl 25 (.tmp 43) (.tmp 41) (by rfl) wb 0 (.slice (some ⟨W.drew.heap.size, 0, none⟩) 1 64) (by rfl) (by rfl) _ _ (H.out.below L2.out H.out.lt) info_sl (by show 0 < 3; omega) (by rfl) (by rfl) ?_; intro w3 hb hg hz; have B3 := yH hb; have T3 := yH (Tch.one hg); clear hb hg hz; simp only [Act.put, yA, yB, yC]))
 go_ret
 have hne : W.drew.heap.size ≠ wb := by have := H.out.lt; omega
 refine ⟨rfl, W.drew.heap.size, Nat.le_refl _, B3.out, B2.out.tch T3.out (by simpa using hne), (Tch.below (w := W) (below_chain (Below.refl _ W).drew L2.out)).trans T3.out⟩
theorem info_u8D : (Tryz.prog.info? 5).map (·.size) = some 1 := by kernel_rfl
set_option maxRecDepth 100000 in
theorem bf_byte (B : Nat) (l : List Int) (z : Int) (h : WbI B W wb l) (hl : l.length ≤ 50) : Calls Tryz.prog 329 #[.pointer (some ⟨wb, 0, none⟩), .int .u8 z] W fun e w' => e = .returned .nilIface ∧ WbI B w' wb (l ++ [z]) ∧ Below B W w' := by
 obtain ⟨hB, hBW, h⟩ := h
 rcases h with ⟨rfl, h⟩ | ⟨g, hg, h1, h2, h3, h4⟩
 ·have H := yH h
  have HB := yH (And.intro hB hBW)
  have HW := yH h.lt
  clear h hB hBW
  go_enter Tryz.func329, Tryz.ntmps329
  go_upto_region 5 with (first
   | (refine wpl_setD rfl 385 (.tmp 9) (.const (.int .i8 0)) (by rfl) wb 2 (.int .i8 0) (by rfl) (by rfl) _ _ H.out info_i8 (by show 2 < 3; omega) (by rfl) (by rfl) ?_; intro w1 hb hg hz; have B1 := yH (show Blk w1 wb 389 (bufC (.slice none 0 0)) from hb); have T1 := yH (Tch.one hg); clear hb hg hz; simp only [Act.put, yA, yB, yC])
   | (go_at_call 330; refine (bf_try_no B1.out).mono ?_; rintro e w2 ⟨rfl, rfl⟩)
   | (go_at_call 331; refine (bf_grow B1.out).mono ?_; rintro e w3 ⟨rfl, g, hge, hb, hg, hT⟩; have GE := yH (show W.heap.size ≤ g from Nat.le_trans T1.out.size hge); have B3 := yH hb; have G3 := yH hg; have T3 := yH hT; clear hb hg hT hge))
  have c0 : w3.cell? ⟨wb, 0, none⟩ = some (.slice (some ⟨g, 0, none⟩) 1 64) := B3.out.cell rfl
  have hg0 := G3.out.lt
  have T03 := yH (show Tch [wb] W w3 from T1.out.trans T3.out)
  clear B1 T1 T3 H
  go_wp2_with (refine wpl_setD rfl 5 (.tmp 25) (.tmp 24) (by rfl) g 0 (.int .u8 z) (by rfl) (by rfl) _ _ G3.out info_u8D (by rw [List.size_toArray, bZ_len _ (by simp)]; omega) (by rfl) (by rfl) ?_; intro w4 hb hg hz; have B4 := yH hb; have T4 := yH (Tch.one hg); clear hb hg hz; simp only [Act.put, yA, yB, yC])
  go_ret
  have hB4 : Blk w4 g 5 (bZ ([] ++ [z])).toArray := B4.out
  have hne : wb ≠ g := fun e => by have h1 := GE.out; have h2 := HW.out; omega
  have hbel : Below B W w4 := ((T03.out.mono (T' := [wb, g]) (by simp)).trans (T4.out.mono (T' := [wb, g]) (by simp))).toBelow HB.out.2 (fun k hk => by have h1 := HB.out; have h2 := GE.out; simp at hk; rcases hk with rfl | rfl <;> omega)
  exact ⟨rfl, ⟨HB.out.1, Nat.le_trans HB.out.2 hbel.size, .inr ⟨g, by have h1 := HB.out; have h2 := GE.out; omega, by simp, by simp, B3.out.tch T4.out (by simpa using hne), hB4⟩⟩, hbel⟩
 ·have H3 := yH h3
  have H4 := yH h4
  have HB := yH (And.intro hB (And.intro hBW hg))
  obtain ⟨n, hn⟩ : ∃ n, n = l.length := ⟨_, rfl⟩
  have HN := yH hn
  have HP := yH (show 0 < n ∧ n ≤ 50 by omega)
  rw [← hn] at H3
  clear h3 h4 h1 h2 hB hBW hg hn hl
  go_enter Tryz.func329, Tryz.ntmps329
  go_upto_region 5 with (first
   | (refine wpl_setD rfl 385 (.tmp 9) (.const (.int .i8 0)) (by rfl) wb 2 (.int .i8 0) (by rfl) (by rfl) _ _ H3.out info_i8 (by show 2 < 3; omega) (by rfl) (by rfl) ?_; intro w1 hb hg hz; have B1 := yH (show Blk w1 wb 389 (bufC (.slice (some ⟨g, 0, none⟩) n 64)) from hb); have T1 := yH (Tch.one hg); clear hb hg hz; simp only [Act.put, yA, yB, yC])
   | (go_at_call 330; refine (bf_try n g B1.out (by have := HP.out; omega) HP.out.1).mono ?_; rintro e w2 ⟨rfl, hb, hT⟩; have B2 := yH hb; have T2 := yH (T1.out.trans hT); clear hb hT))
  have c0 : w2.cell? ⟨wb, 0, none⟩ = some (.slice (some ⟨g, 0, none⟩) (n + 1) 64) := B2.out.cell rfl
  have hne := blk_ne_ty H4.out H3.out (by decide)
  have G3 := yH (show Blk w2 g 5 (bZ l).toArray from H4.out.tch T2.out (by simpa using hne))
  have hn1 : (n : Int) < (n : Int) + 1 := by omega
  have hn2 : (n : Int) ≤ 60 := by have := HP.out; omega
  clear B1 T1
  go_wp2_with (refine wpl_setD rfl 5 (.tmp 25) (.tmp 24) (by rfl) g n (.int .u8 z) (by rfl) (by rfl) _ _ G3.out info_u8D (by rw [List.size_toArray, bZ_len _ (by have := HN.out; have := HP.out; omega)]; have := HP.out; omega) (by rfl) (by rfl) ?_; intro w4 hb hg hz; have B4 := yH hb; have T4 := yH (Tch.one hg); clear hb hg hz; simp only [Act.put, yA, yB, yC])
  go_ret
  have h2 := HP.out
  have h3 := HN.out
  have hB4 : Blk w4 g 5 (bZ (l ++ [z])).toArray := by
   have := B4.out
   rw [h3, bZ_set l z (by omega)] at this
   exact this
  have hlen : (l ++ [z]).length = n + 1 := by rw [List.length_append, ← h3]; rfl
  have hbel : Below B W w4 := ((T2.out.mono (T' := [wb, g]) (by simp)).trans (T4.out.mono (T' := [wb, g]) (by simp))).toBelow HB.out.2.1 (fun k hk => by have := HB.out; simp at hk; rcases hk with rfl | rfl <;> omega)
  refine ⟨rfl, ⟨HB.out.1, Nat.le_trans HB.out.2.1 hbel.size, .inr ⟨g, HB.out.2.2, by rw [hlen]; omega, by rw [hlen]; omega, ?_, hB4⟩⟩, hbel⟩
  rw [hlen]
  exact B2.out.tch T4.out (by simpa using hne.symm)
end
end Go.Proofs.YtffalfacakdhkaaGreatDoor
namespace Go.Proofs.YtffalfacakdhkaaGreatDoor
open Go.RowKit Go.Maps
set_option linter.unusedVariables false
set_option linter.unusedSimpArgs false
section
variable {W : World} {wb : Nat}
def NbI (B wb : Nat) (W : World) (l : List Int) (x k : Nat) (m : Nat) (iv : Value) (wr : World) : Prop :=
 ∃ j : Nat, iv = .int .i64 ((j : Int) - 1) ∧ j ≤ k ∧ j ≤ m ∧ m ≤ j ∧ WbI B wr wb (l ++ (beL x k).take (k - j)) ∧ Below B W wr
def NbO (W : World) (B wb : Nat) (l : List Int) (x k : Nat) (m : Nat) (iv : Value) (wr : World) : Prop :=
 (iv = .int .i64 0 ∧ m = 1 ∧ W = wr) ∨ (iv = .int .i64 1 ∧ m = 0 ∧ WbI B wr wb (l ++ beL x k) ∧ Below B W wr)
theorem WbI.drew {B : Nat} {l : List Int} (h : WbI B W wb l) : WbI B W.drew wb l := h.below (Below.refl _ W).drew
theorem drop_all (x k : Nat) : (beL x k).take k = beL x k := List.take_of_length_le (by rw [beL_len]; exact Nat.le_refl _)
set_option maxRecDepth 100000 in
set_option maxHeartbeats 1000000 in
theorem wb_number (B : Nat) (l : List Int) (h : WbI B W wb l) (b c : Nat) (x k : Nat) (hb : W.cell? ⟨b, 0, none⟩ = some (.int .i64 (x : Int))) (hk : 1 ≤ k ∧ k ≤ 8) (hx : x ≤ 4611686018427387904) (hl : l.length + k ≤ 50) :
  Calls Tryz.prog 265 #[.pointer (some ⟨wb, 0, none⟩), .int .i64 (k : Int), .slice (some ⟨b, 0, none⟩) 1 c] W fun e w' => e = .returned (.tuple #[]) ∧ WbI B w' wb (l ++ beL x k) ∧ Below B W w' := by
 have H := yH h
 have HL := yH hl
 clear h hl
 go_enter Tryz.func265, Tryz.ntmps265
 go_wp2
 go_loopg [11] 1 (fun m iv wr => NbO W B wb l x k m iv wr)
 case atStart => exact .inl ⟨rfl, rfl, rfl⟩
 case round =>
  rcases hrel with ⟨rfl, rfl, rfl⟩ | ⟨rfl, rfl, hW, hB⟩
  ·go_wp2
   go_loopg [8] k (fun m iv w2 => NbI B wb W l x k m iv w2)
   case atStart =>
    refine ⟨k, rfl, by omega, by omega, by omega, ?_, Below.refl _ _⟩
    rw [Nat.sub_self, List.take_zero, List.append_nil]
    exact H.out
   case round =>
    obtain ⟨j, rfl, h1, h2, h3, hS, hT⟩ := hrel
    have HS := yH hS
    have HT := yH hT
    clear hS hT
    rcases Nat.eq_zero_or_pos j with rfl | hj0
    ·have := HS.out
     rw [Nat.sub_zero, drop_all] at this
     have HS' := yH this
     clear this
     go_wp2
     go_roundg 0
     case measure => omega
     case rel => exact .inr ⟨rfl, rfl, HS'.out, HT.out⟩
    ·obtain ⟨i, rfl⟩ : ∃ i, j = i + 1 := ⟨j - 1, by omega⟩
     have eK : (((i + 1 : Nat) : Int) - 1) = (i : Int) := by omega
     rw [eK]
     clear eK
     have hi8 : (i : Int) < 8 := by omega
     have hi0 : (0 : Int) ≤ (i : Int) := by omega
     have HLn := yH (show (l ++ (beL x k).take (k - (i + 1))).length ≤ 50 by have := HL.out; rw [List.length_append, List.length_take, beL_len]; omega)
     have h8 : IntKind.i64.wrap (8 * (i : Int)) = ((8 * i : Nat) : Int) := by rw [IntWalk.i64_in _ (by omega)]; omega
     go_upto_region 6 with fail
     refine wp_region_qs (fun _ _ => True) [(0, some 1), (1, some 1), (2, some 0), (3, some 1), (4, some 1), (5, some 1), (6, some 1), (7, some 0), (8, none)] (by kernel_rfl) (by kernel_rfl) (by kernel_rfl) (by kernel_rfl) (by kernel_rfl) (fun _ _ _ _ _ h => h) trivial ?_
     simp only [yD, yE, yF, yG]
     (repeat (first | (refine qs_mid (v := ?_) (by rfl) ?_ ?_; rotate_left 1; (· (intro j w' hj1 hj2 hS; go_simp; (try (simp only [↓IntWalk.iteOmega]; go_simp)); (try simp (disch := omega) only [IntWalk.i64_in]); try with_reducible rfl)); simp only [Act.put, yA, yB, yC]) | (refine qs_skip (by rfl) ?_; simp only [Act.put, yA, yB, yC])))
     refine qs_act ?_
     go_wp2_with (go_at_call 329; rewrite [shift_byteL]; refine (bf_byte B _ _ HS.out.drew HLn.out).mono ?_; rintro e w2 ⟨rfl, hw, hb⟩; have W2 := yH hw; have L2 := yH (show Below B W w2 from HT.out.drew.trans hb); clear hw hb)
     refine ⟨trivial, ?_⟩
     (repeat (first | (refine qs_mid (v := ?_) (by rfl) ?_ ?_; rotate_left 1; (· (intro j w' hj1 hj2 hS; go_simp; (try (simp only [↓IntWalk.iteOmega]; go_simp)); (try simp (disch := omega) only [IntWalk.i64_in]); try with_reducible rfl)); simp only [Act.put, yA, yB, yC]) | (refine qs_skip (by rfl) ?_; simp only [Act.put, yA, yB, yC])))
     refine qs_nil ?_
     go_wp2
     go_roundg (gk - 1)
     case measure => omega
     case rel =>
      refine ⟨i, by first | rfl | go_num, by omega, by omega, by omega, ?_, L2.out⟩
      have e : k - i = (k - (i + 1)) + 1 := by omega
      have := W2.out
      rw [List.append_assoc, ← beL_take _ _ _ (by omega)] at this
      exact this
  ·have HW := yH hW
   have HBl := yH hB
   clear hW hB
   go_wp2
   go_end0
   exact ⟨rfl, HW.out, HBl.out⟩
end
end Go.Proofs.YtffalfacakdhkaaGreatDoor
