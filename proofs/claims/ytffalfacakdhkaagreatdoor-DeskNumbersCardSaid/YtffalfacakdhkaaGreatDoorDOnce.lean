/-
  what this claim needs of: Once, SortPlain, SortIns, LenPlain, Pairs, Crc, Sha3, Crc2 (written by cut.py).
-/
import Derived.Test.YtffalfacakdhkaaGreatDoorDMem
import Derived.Defers
import Derived.Laws.Pointers
import Derived.Laws.LoneSync
import Derived.RegionTactic
import Derived.RegionCalls
import Derived.Test.YtffalfacakdhkaaGreatDoorDHuffSpec
import Derived.Lib.AppendZeros
namespace Go.Proofs.YtffalfacakdhkaaGreatDoor
open Go.RowKit
set_option linter.unusedVariables false
set_option linter.unusedSimpArgs false

theorem disable_o (w : World) : (callFunc 467 #[]).run Tryz.prog w = .ok (.value (.tuple #[])) w := run_call_mark0 Tryz.func467 (by kernel_rfl) (by kernel_rfl) (by kernel_rfl) .disable (by kernel_rfl) w
theorem enable_o (w : World) : (callFunc 469 #[]).run Tryz.prog w = .ok (.value (.tuple #[])) w := run_call_mark0 Tryz.func469 (by kernel_rfl) (by kernel_rfl) (by kernel_rfl) .enable (by kernel_rfl) w
theorem acquire_o (a : Addr) (w : World) : (callFunc 470 #[.pointer (some a)]).run Tryz.prog w = .ok (.value (.tuple #[])) w := run_call_marked Tryz.func470 (by kernel_rfl) (by kernel_rfl) (by kernel_rfl) .acquire (by kernel_rfl) a w
theorem releaseMerge_o (a : Addr) (w : World) : (callFunc 472 #[.pointer (some a)]).run Tryz.prog w = .ok (.value (.tuple #[])) w := run_call_marked Tryz.func472 (by kernel_rfl) (by kernel_rfl) (by kernel_rfl) .releaseMerge (by kernel_rfl) a w
theorem store_deferred_o (a : Addr) (x : Value) (u : FrameMode) (w : World) (hc : w.cell? a = some x) (hz : w.frozen? a = false) :
  CallsD Tryz.prog 175 #[.pointer (some a), .bool true] u w fun e u' w' => u' = u ∧ (e = .returned (.tuple #[]) ∧ w' = w.drew.setCell a (.int .u32 1)) := by
 have hc' : w.drew.cell? a = some x := by go_simp
 have hz' : w.drew.frozen? a = false := by go_simp
 have hst := run_call_store (P := Tryz.prog) Tryz.func255 (by kernel_rfl) (by kernel_rfl) (by kernel_rfl) (by kernel_rfl) (k := .u32) (y := 1) hc' hz'
 go_enter_d Tryz.func175, Tryz.ntmps175
 go_wp2
 go_region_calls
 all_goals (go_end0; exact ⟨rfl, rfl⟩)
set_option maxRecDepth 100000 in
theorem unlock_deferred_o (a : Addr) (u : FrameMode) (w : World) (hc : w.cell? a = some (.int .i32 1)) (hz : w.frozen? a = false) :
  CallsD Tryz.prog 451 #[.pointer (some a)] u w fun e u' w' => u' = u ∧ (e = .returned (.tuple #[]) ∧ w' = w.setCell a (.int .i32 0)) := by
 have hd := disable_o
 have he := enable_o
 have hr := releaseMerge_o
 have hadd := run_call_add (P := Tryz.prog) Tryz.func473 (by kernel_rfl) (by kernel_rfl) (by kernel_rfl) .i32 (by kernel_rfl) (y := -1) (s := 0) hc hz (by simp [go_sem]; rfl)
 have hcv := run_convert_to_unsafe (P := Tryz.prog) (src := 598) (dst := 72) Tryz.underlying598 Tryz.underlying72 (by kernel_rfl) hc
 go_enter_d Tryz.func451, Tryz.ntmps451
 go_wp2
 go_end0
 go_wp2
set_option maxRecDepth 100000 in
theorem lock_free_o (a : Addr) (w : World) (hc : w.cell? a = some (.int .i32 0)) (hz : w.frozen? a = false) :
  Calls Tryz.prog 450 #[.pointer (some a)] w fun e w' => e = .returned (.tuple #[]) ∧ w' = w.setCell a (.int .i32 1) := by
 have hd := disable_o
 have he := enable_o
 have ha := acquire_o
 have hcas := run_call_cas_hit (P := Tryz.prog) Tryz.func468 (by kernel_rfl) (by kernel_rfl) (by kernel_rfl) .i32 (by kernel_rfl) (y := 1) hc hz
 have hc' : (w.setCell a (.int .i32 1)).cell? a = some (.int .i32 1) := World.cell?_setCell_same w a _ hc
 have hcv := run_convert_to_unsafe (P := Tryz.prog) (src := 598) (dst := 72) Tryz.underlying598 Tryz.underlying72 (by kernel_rfl) hc'
 go_enter Tryz.func450, Tryz.ntmps450
 go_wp2
 first | go_end0 | (simp only [Exit.inBlock, Exit.then]; refine bodyPost_ret (results_none rfl _ _ _) rfl ?_) | refine bodyPost_ret (results_none rfl _ _ _) rfl ?_
 go_wp2
/-- What the function that is called does: the Once's first two cells stay. -/
structure OnceKept (b off : Nat) (w' : World) : Prop where
 c0 : w'.cell? ⟨b, off, none⟩ = some (.int .u32 0)
 c1 : w'.cell? ⟨b, off + 1, none⟩ = some (.int .i32 1)
 f0 : w'.frozen? ⟨b, off, none⟩ = false
 f1 : w'.frozen? ⟨b, off + 1, none⟩ = false
set_option maxRecDepth 100000 in
set_option maxHeartbeats 1600000 in
theorem slow_o (b off F : Nat) (p : Value) (R : World → Prop) (w : World)
  (h0 : w.cell? ⟨b, off, none⟩ = some (.int .u32 0)) (h1 : w.cell? ⟨b, off + 1, none⟩ = some (.int .i32 0))
  (f0 : w.frozen? ⟨b, off, none⟩ = false) (f1 : w.frozen? ⟨b, off + 1, none⟩ = false)
  (hE : ∀ w, (callFunc F #[p]).run Tryz.prog w = .ok (.enter F #[p]) w)
  (hF : Calls Tryz.prog F #[p] (w.setCell ⟨b, off + 1, none⟩ (.int .i32 1)) fun e w' => e = .returned (.tuple #[]) ∧ OnceKept b off w' ∧ R w') :
  Calls Tryz.prog 433 #[.pointer (some ⟨b, off, none⟩), .func (.func F) #[p] #[]] w fun e w' => e = .returned (.tuple #[]) ∧ ∃ w2, R w2 ∧
   w' = (w2.drew.setCell ⟨b, off, none⟩ (.int .u32 1)).setCell ⟨b, off + 1, none⟩ (.int .i32 0) := by
 have hl := run_call_load (P := Tryz.prog) Tryz.func254 (by kernel_rfl) (by kernel_rfl) (by kernel_rfl) .u32 (by kernel_rfl) (w := w.setCell ⟨b, off + 1, none⟩ (.int .i32 1)) (a := ⟨b, off, none⟩) (x := 0) ((World.cell?_setCell_other _ ⟨b, off + 1, none⟩ ⟨b, off, none⟩ _ (by simp)).trans h0)
 have hnot : ∀ (x : Bool) (w : World), (Op.unary .not (.bool x)).run Tryz.prog w = .ok (.bool (!x)) w := fun _ _ => rfl
 have HF := yH hF
 clear hF
 go_enter_defers Tryz.func433, Tryz.ntmps433
 go_wp2_with (first | (go_at_call 450; refine (lock_free_o ⟨b, off + 1, none⟩ _ (by go_simp) (by go_simp)).mono ?_; rintro e w' ⟨rfl, rfl⟩) | (go_at_call 174; go_in))
 refine HF.out.mono ?_
 rintro e w2 ⟨rfl, ⟨q0, q1, g0, g1⟩, hR⟩
 go_wp2
 refine leaves_cons (f := 175) (args := #[.pointer (some ⟨b, off, none⟩), .bool true]) (by simp) (by simp [go_sem]) ?_
 refine (store_deferred_o ⟨b, off, none⟩ (.int .u32 0) .returning _ q0 g0).mono ?_
 rintro e u' w'' ⟨rfl, rfl, rfl⟩
 refine leaves_cons (f := 451) (args := #[.pointer (some ⟨b, off + 1, none⟩)]) (by simp [settle]) (by simp [go_sem]) ?_
 refine (unlock_deferred_o ⟨b, off + 1, none⟩ _ _ ?_ (by simp [g1])).mono ?_
 ·refine (World.cell?_setCell_other _ ⟨b, off, none⟩ ⟨b, off + 1, none⟩ _ (by simp)).trans ?_
  rw [World.cell?_drew]
  exact q1
 rintro e u' w'' ⟨rfl, rfl, rfl⟩
 simp [Leaves, settle, results, Tryz.results433]
 exact ⟨w2, hR, rfl⟩
set_option maxRecDepth 100000 in
/-- '(*sync.Once).Do', not yet done, the lock free. -/
theorem do_o (b off F : Nat) (p : Value) (R : World → Prop) (w : World)
  (h0 : w.cell? ⟨b, off, none⟩ = some (.int .u32 0)) (h1 : w.cell? ⟨b, off + 1, none⟩ = some (.int .i32 0))
  (f0 : w.frozen? ⟨b, off, none⟩ = false) (f1 : w.frozen? ⟨b, off + 1, none⟩ = false)
  (hE : ∀ w, (callFunc F #[p]).run Tryz.prog w = .ok (.enter F #[p]) w)
  (hF : Calls Tryz.prog F #[p] (w.setCell ⟨b, off + 1, none⟩ (.int .i32 1)) fun e w' => e = .returned (.tuple #[]) ∧ OnceKept b off w' ∧ R w') :
  Calls Tryz.prog 412 #[.pointer (some ⟨b, off, none⟩), .func (.func F) #[p] #[]] w fun e w' => e = .returned (.tuple #[]) ∧ ∃ w2, R w2 ∧
   w' = (w2.drew.setCell ⟨b, off, none⟩ (.int .u32 1)).setCell ⟨b, off + 1, none⟩ (.int .i32 0) := by
 have hl := run_call_load (P := Tryz.prog) Tryz.func254 (by kernel_rfl) (by kernel_rfl) (by kernel_rfl) .u32 (by kernel_rfl) h0
 have hnot : ∀ (x : Bool) (w : World), (Op.unary .not (.bool x)).run Tryz.prog w = .ok (.bool (!x)) w := fun _ _ => rfl
 have HF := yH hF
 have HE := yH hE
 clear hF hE
 go_enter Tryz.func412, Tryz.ntmps412
 go_wp2_with (first | (go_at_call 433; refine (slow_o b off F p R _ h0 h1 f0 f1 HE.out HF.out).mono ?_; rintro e w' ⟨rfl, w2, hR, rfl⟩) | (go_at_call 174; go_in))
 go_end0
 exact ⟨rfl, w2, hR, rfl⟩
end Go.Proofs.YtffalfacakdhkaaGreatDoor
namespace Go.Proofs.YtffalfacakdhkaaGreatDoor
set_option linter.unusedVariables false

abbrev PV := Int × Value
section
variable {β : Type}
def Srt (l : List (Int × β)) : Prop := l.Pairwise fun p q => p.1 ≤ q.1
/-- A permutation that keeps, for each number, its elements in their order. -/
def StEq (l m : List (Int × β)) : Prop := l.Perm m ∧ ∀ x : Int, l.filter (fun p => p.1 == x) = m.filter (fun p => p.1 == x)

end

/-- The cells of a row of packs. -/
def flat (ps : List PV) : List Value := ps.flatMap fun p => [.int .i64 p.1, p.2]
end Go.Proofs.YtffalfacakdhkaaGreatDoor
namespace Go.Proofs.YtffalfacakdhkaaGreatDoor
open Go.RowKit
set_option linter.unusedVariables false

/-- The row as the sort has it. -/
structure PRow (w : World) (g n cap : Nat) (ps : List PV) : Prop where
 own : w.ownsRow 0 692 2 (.slice (some ⟨g, 0, none⟩) n cap) n (flat ps)
 one : ∀ p ∈ ps, p.2.oneCell' = true

/-- The relation of the outer loop. -/
def I1 (x s y : List PV) (a : Nat) (w : World) (g n cap : Nat) (iv : Value) (wr : World) : Prop :=
 ∃ (m i : Nat) (t : List PV), 1 ≤ m ∧ m ≤ s.length ∧ iv = .int .i64 i ∧ i = a + m ∧ Srt t ∧ StEq (s.take m) t ∧ PRow wr g n cap (x ++ (t ++ s.drop m) ++ y) ∧ w.grownBy wr (some g)
/-- The relation of the inner loop. t: what is sorted; e: the one that sinks. -/
def I2 (x r : List PV) (t : List PV) (e : PV) (a : Nat) (w : World) (g n cap : Nat) (jv : Value) (wr : World) : Prop :=
 ∃ (l1 l2 : List PV) (j : Nat), t = l1 ++ l2 ∧ jv = .int .i64 j ∧ j = a + l1.length ∧ (∀ q ∈ l2, e.1 < q.1) ∧ PRow wr g n cap (x ++ (l1 ++ e :: l2) ++ r) ∧ w.grownBy wr (some g)

end Go.Proofs.YtffalfacakdhkaaGreatDoor
namespace Go.Proofs.YtffalfacakdhkaaGreatDoor
open Go.RowKit
set_option linter.unusedVariables false

end Go.Proofs.YtffalfacakdhkaaGreatDoor
namespace Go.Proofs.YtffalfacakdhkaaGreatDoor
set_option linter.unusedVariables false

abbrev AP := Int × List Int
def pairsOf : List AP → List AP
 | a :: b :: r => (a.1 + b.1, a.2 ++ b.2) :: pairsOf r
 | _ => []
end Go.Proofs.YtffalfacakdhkaaGreatDoor
namespace Go.Proofs.YtffalfacakdhkaaGreatDoor
open Go.RowKit
set_option linter.unusedVariables false

/-- A pack: its weight, its slice, its symbols. -/
abbrev TP := Int × (Value × List Int)
def pvs (z : List TP) : List PV := z.map fun t => (t.1, t.2.1)
def aps (z : List TP) : List (Int × List Int) := z.map fun t => (t.1, t.2.2)
def Sym (w : World) (v : Value) (l : List Int) : Prop := w.ownsRow 0 3 1 v l.length (l.map (Value.int .i64))
theorem own_below {w w' : World} {base : Nat} {e : TypeId} {size n : Nat} {v : Value} {xs : List Value} (h : w.ownsRow base e size v n xs) (hb : Below w.heap.size w w') : w'.ownsRow base e size v n xs :=
 h.kept (row := none) ⟨hb.os, hb.tape, hb.output, hb.size, fun k hk _ => hb.block k hk⟩ (by cases hh : v.ownBlock <;> simp)
def P1 (z : List TP) (w : World) (v i : Value) (wr : World) : Prop :=
 ∃ (k : Nat) (z' : List TP), 2 * k ≤ z.length ∧ i = .int .i64 (2 * k : Nat) ∧ wr.ownsRow w.heap.size 692 2 v k (flat (pvs z')) ∧ (∀ t ∈ z', Sym wr t.2.1 t.2.2) ∧ (∀ t ∈ z', ∀ b, t.2.1.ownBlock = some b → w.heap.size ≤ b) ∧ aps z' = pairsOf (aps (z.take (2 * k))) ∧ Below w.heap.size w wr

end Go.Proofs.YtffalfacakdhkaaGreatDoor
namespace Go.Proofs.YtffalfacakdhkaaGreatDoor
open Go.RowKit
set_option linter.unusedVariables false
set_option linter.unusedSimpArgs false

def rowT (i : Nat) : List Value := (List.range 256).map fun j => if j < i then u32v (rowC j) else .int .u32 0
def tabC (done st : Int) (i : Nat) : Array Value := (.bool true :: .int .u32 2197175160 :: .int .u32 done :: .int .i32 st :: .int .u32 0 :: rowT i).toArray
theorem tabC_get (d s : Int) (i j : Nat) (hj : j < 256) : (tabC d s i)[5 + j]? = some (if j < i then u32v (rowC j) else .int .u32 0) := by
 unfold tabC
 rw [List.getElem?_toArray, Nat.add_comm]
 show (rowT i)[j]? = _
 unfold rowT
 rw [List.getElem?_map, List.getElem?_range hj]
 rfl
theorem rowT_set (i : Nat) (h : i < 256) : (rowT i).set i (u32v (rowC i)) = rowT (i + 1) := by
 unfold rowT
 apply List.ext_getElem (by simp)
 intro j h1 h2
 simp only [List.length_set, List.length_map, List.length_range] at h1
 rw [List.getElem_set]
 simp only [List.getElem_map, List.getElem_range]
 by_cases e : i = j
 ·subst e
  rw [if_pos rfl, if_pos (by omega)]
 ·rw [if_neg e]
  by_cases l : j < i
  ·rw [if_pos l, if_pos (by omega)]
  ·rw [if_neg l, if_neg (by omega)]
theorem tabC_set (d s : Int) (i : Nat) (h : i < 256) : (tabC d s i).setIfInBounds (5 + i) (u32v (rowC i)) = tabC d s (i + 1) := by
 unfold tabC
 rw [← rowT_set i h]
 simp [Nat.add_comm 5 i]
theorem tabC_done (d d' s : Int) (i : Nat) : (tabC d s i).setIfInBounds 2 (.int .u32 d') = tabC d' s i := by simp [tabC]
theorem tabC_st (d s s' : Int) (i : Nat) : (tabC d s i).setIfInBounds 3 (.int .i32 s') = tabC d s' i := by simp [tabC]
theorem poly_wv : (2197175160 : Int) = wv polyW := by decide
theorem neg_wv_mod (x : BitVec 32) : (-(wv x)) % 4294967296 = wv (-x) := by have := neg_wv x; rwa [IntKind.wrap_u32] at this
theorem step_val (x : BitVec 32) : bits .xor .u32 (wv x / 2) (bits .and .u32 2197175160 ((-(bits .and .u32 (wv x) 1)) % 4294967296)) = wv (stepC polyW x) := by
 have e1 : wv x / (2 : Int) = wv (x >>> 1) := shr_wv x 1
 have e2 : (1 : Int) = wv 1#32 := by decide
 rw [e1, poly_wv, e2, bits_and, neg_wv_mod, bits_and, bits_xor, stepC_neg]
def FlI (d s : Int) (g : Nat) (w : World) (m : Nat) (iv : Value) (wr : World) : Prop :=
 ∃ i : Nat, iv = .int .i64 ((i : Nat) : Int) ∧ i ≤ 256 ∧ i + m ≤ 256 ∧ 256 ≤ i + m ∧ Blk wr g 582 (tabC d s i) ∧ w.grownBy wr (some g)
def FsI (d s : Int) (g i : Nat) (w : World) (m : Nat) (kv xv : Value) (wr : World) : Prop :=
 ∃ k : Nat, kv = .int .i64 ((k : Nat) : Int) ∧ k ≤ 8 ∧ k + m ≤ 8 ∧ 8 ≤ k + m ∧ xv = .int .u32 (wv (stepN polyW k (b32 i))) ∧ Blk wr g 582 (tabC d s i) ∧ w.grownBy wr (some g)
set_option maxRecDepth 100000 in
set_option maxHeartbeats 1600000 in
theorem fill_any (d s : Int) (g : Nat) (w : World) (hg : Blk w g 582 (tabC d s 0)) :
  Calls Tryz.prog 444 #[.pointer (some ⟨g, 0, none⟩)] w fun e w' => e = .returned (.tuple #[]) ∧ Blk w' g 582 (tabC d s 256) ∧ w.grownBy w' (some g) := by
 have HG := yH hg
 clear hg
 go_enter Tryz.func444, Tryz.ntmps444
 go_wp2
 go_loopg [4, 2, 3] 256 (fun m iv _ _ wr => FlI d s g w m iv wr)
 case atStart => exact ⟨0, rfl, by omega, by omega, by omega, HG.out, ⟨rfl, rfl, rfl, Nat.le_refl _, fun _ _ _ => rfl⟩⟩
 case round =>
  obtain ⟨i, rfl, hi, k1, k2, hk, hb⟩ := hrel
  have HK := yH hk
  have HB := yH hb
  clear hk hb
  by_cases hlt : i < 256
  ·have hltI : (i : Int) < 256 := by omega
   obtain ⟨f0, rfl⟩ : ∃ f0, gk = f0 + 1 := ⟨gk - 1, by omega⟩
   have eI : IntKind.u32.wrap (i : Int) = (i : Int) := by rw [IntKind.wrap_u32]; omega
   go_wp2
   go_loopg [9, 3] 8 (fun m kv xv wr => FsI d s g i w m kv xv wr)
   case atStart =>
    refine ⟨0, rfl, by omega, by omega, by omega, ?_, HK.out, HB.out⟩
    rw [stepN, ← b32_wv (by omega)]
   case round =>
    obtain ⟨k, rfl, hk8, j1, j2, rfl, hk, hb⟩ := hrel
    have HK2 := yH hk
    have HB2 := yH hb
    clear hk hb
    by_cases hl8 : k < 8
    ·have hl8I : (k : Int) < 8 := by omega
     have cP : wr.cell? ⟨g, 1, none⟩ = some (.int .u32 2197175160) := HK2.out.cell rfl
     go_wp2
     rw [step_val]
     go_roundg (gk - 1)
     case measure => omega
     case rel => exact ⟨k + 1, by go_num, by omega, by omega, by omega, rfl, HK2.out, HB2.out⟩
    ·have hl8I : ¬ (k : Int) < 8 := by omega
     obtain rfl : k = 8 := by omega
     have cI : wr.cell? ⟨g, 5 + i, none⟩ = some (.int .u32 0) := HK2.out.cell (by rw [tabC_get _ _ _ _ hlt, if_neg (Nat.lt_irrefl _)])
     have fI := HK2.out.free (5 + i)
     go_wp2
     obtain ⟨w2, hw2⟩ : ∃ w2, w2 = wr.setCell ⟨g, 5 + i, none⟩ (.int .u32 (wv (stepN polyW 8 (b32 i)))) := ⟨_, rfl⟩
     have K3 := yH (show Blk w2 g 582 (tabC d s (i + 1)) by rw [hw2, ← tabC_set _ _ _ hlt]; exact HK2.out.put (5 + i) _)
     have L3 := yH (show w.grownBy w2 (some g) by rw [hw2]; exact gb_trans HB2.out (grown_put _ _ _))
     rw [← hw2]
     clear hw2 cI fI
     go_roundg f0
     case measure => omega
     case rel => exact ⟨i + 1, by go_num, by omega, by omega, by omega, K3.out, L3.out⟩
  ·have hltI : ¬ (i : Int) < 256 := by omega
   obtain rfl : i = 256 := by omega
   go_wp2
   first | go_end0 | (simp only [Exit.inBlock, Exit.then]; refine bodyPost_ret (results_none rfl _ _ _) rfl ?_) | refine bodyPost_ret (results_none rfl _ _ _) rfl ?_
   exact ⟨rfl, HK.out, HB.out⟩
def CrcTabPost (w : World) (e : Ending) (w' : World) : Prop := ∃ g, e = .returned (.pointer (some ⟨g, 0, none⟩)) ∧ w.heap.size ≤ g ∧ Blk w' g 582 (tabC 0 0 0) ∧ Below w.heap.size w w'
set_option maxRecDepth 100000 in
set_option maxHeartbeats 1600000 in
theorem tabnew_any (w : World) : Calls Tryz.prog 421 #[.int .u32 2197175160] w (CrcTabPost w) := by
 go_enter Tryz.func421, Tryz.ntmps421
 go_wp2
 go_ret
 refine ⟨w.heap.size, rfl, Nat.le_refl _, ?_, (Below.refl _ _).alloc (Nat.le_refl _) _⟩
 exact Blk.made _ _ _
end Go.Proofs.YtffalfacakdhkaaGreatDoor
namespace Go.Proofs.YtffalfacakdhkaaGreatDoor
open Go.RowKit
set_option linter.unusedVariables false
set_option linter.unusedSimpArgs false

theorem RdI.drop8 {w : World} {bb off n k : Nat} {b : List Int} (h : RdI .u8 w (some ⟨bb, off, none⟩) n b) (hk : k ≤ n) : RdI .u8 w (some ⟨bb, off + k, none⟩) (n - k) (b.drop k) := by
 refine ⟨by rw [List.length_drop, h.1], fun h0 => ?_⟩
 obtain ⟨b2, o2, e, hlt, hc⟩ := h.2 (by omega)
 simp only [Option.some.injEq, Addr.mk.injEq] at e
 obtain ⟨rfl, rfl, _⟩ := e
 refine ⟨bb, off + k, rfl, hlt, fun j hj => ?_⟩
 have := hc (k + j) (by omega)
 rw [Nat.add_assoc, this]
 congr 2
 simp [List.getD_eq_getElem?_getD, List.getElem?_drop]
theorem rd_gb {w wr : World} {g n : Nat} {A : Option Addr} {b : List Int} (h : RdI .u8 w A n b) (hg : w.grownBy wr (some g)) (hA : ∀ a, A = some a → a.block ≠ g) : RdI .u8 wr A n b := by
 refine ⟨h.1, fun h0 => ?_⟩
 obtain ⟨b2, o2, e, hlt, hc⟩ := h.2 h0
 refine ⟨b2, o2, e, Nat.lt_of_lt_of_le hlt hg.size, fun j hj => ?_⟩
 exact (World.cell?_of_block (a := ⟨b2, o2 + j, none⟩) (hg.block b2 hlt (fun hh => hA _ e (by injection hh)))).trans (hc j hj)
end Go.Proofs.YtffalfacakdhkaaGreatDoor
namespace Go.Proofs.YtffalfacakdhkaaGreatDoor
open Go.RowKit
set_option linter.unusedVariables false
set_option linter.unusedSimpArgs false

theorem bits_xor8 (a b : Nat) (ha : a < 256) (hb : b < 256) : bits .xor .u8 (a : Int) (b : Int) = ((a ^^^ b : Nat) : Int) := by
 show IntKind.u8.wrap ((((BitVec.ofInt 8 (a : Int)) ^^^ (BitVec.ofInt 8 (b : Int))).toNat : Nat) : Int) = _
 have h : a ^^^ b < 256 := Nat.xor_lt_two_pow (n := 8) ha hb
 rw [BitVec.ofInt_natCast, BitVec.ofInt_natCast, BitVec.toNat_xor, BitVec.toNat_ofNat, BitVec.toNat_ofNat, Nat.mod_eq_of_lt (by omega), Nat.mod_eq_of_lt (by omega), IntKind.wrap_u8]
 omega
theorem crcFrom_take (x : BitVec 32) (b : List Int) (i : Nat) (h : i < b.length) : crcFrom x (b.take (i + 1)) = byteC (crcFrom x (b.take i)) (b.getD i 0).toNat := by
 rw [List.take_add_one, List.getElem?_eq_getElem h, Option.toList_some, crcFrom_snoc, List.getD_eq_getElem?_getD, List.getElem?_eq_getElem h]
 rfl
theorem byte_val (x : BitVec 32) (z : Nat) (hz : z < 256) : bits .xor .u32 (wv x / 256) (wv (rowC ((x.toNat % 256) ^^^ z))) = wv (byteC x z) := by
 have e1 : wv x / (256 : Int) = wv (x >>> 8) := shr_wv x 8
 rw [e1, bits_xor, byteC_row x z hz]
theorem once_kept {w : World} {g : Nat} {k : Nat} (h : Blk w g 582 (tabC 0 1 k)) : OnceKept g 2 w := ⟨h.cell rfl, h.cell rfl, h.free _, h.free _⟩
theorem max_xor (x : BitVec 32) : bits .xor .u32 IntKind.u32.max (wv x) = wv (~~~x) := by
 rw [show IntKind.u32.max = wv (~~~(0#32)) by decide, bits_xor]
 congr 1
def AdI (b : List Int) (g : Nat) (w : World) (n m : Nat) (iv xv : Value) (wr : World) : Prop :=
 ∃ i : Nat, iv = .int .i64 ((i : Nat) : Int) ∧ i ≤ n ∧ i + m ≤ n ∧ n ≤ i + m ∧ xv = .int .u32 (wv (crcFrom (~~~(0#32)) (b.take i))) ∧ Blk wr g 582 (tabC 1 0 256) ∧ w.grownBy wr (some g)
set_option maxRecDepth 100000 in
set_option maxHeartbeats 3200000 in
theorem tabadd_any (g : Nat) (b : List Int) (A : Option Addr) (n c : Nat) (w : World) (hg : Blk w g 582 (tabC 0 0 0)) (hr : RdI .u8 w A n b) (hA : 0 < n → ∀ a, A = some a → a.block ≠ g) (hB : ∀ z ∈ b, 0 ≤ z ∧ z < 256) (hn : n ≤ 1000000000) :
  Calls Tryz.prog 422 #[.pointer (some ⟨g, 0, none⟩), .int .u32 0, .slice A n c] w fun e w' => e = .returned (.int .u32 (wv (crcB b))) ∧ w.grownBy w' (some g) := by
 have HG := yH hg
 have HR := yH hr
 have HA := yH hA
 have HBy := yH hB
 have hbl := yH hr.1
 have k0 : w.cell? ⟨g, 0, none⟩ = some (.bool true) := hg.cell rfl
 clear hg hr hA hB
 go_enter Tryz.func422, Tryz.ntmps422
 go_upto_region 4 with (go_at_call 412; refine (do_o g 2 444 (.pointer (some ⟨g, 0, none⟩)) (fun w2 => Blk w2 g 582 (tabC 0 1 256) ∧ w.grownBy w2 (some g)) w (HG.out.cell rfl) (HG.out.cell rfl) (HG.out.free _) (HG.out.free _) (fun _ => rfl) ((fill_any 0 1 g _ (by rw [← tabC_st 0 0 1 0]; exact HG.out.put 3 _)).mono (fun e w' h => ⟨h.1, once_kept h.2.1, h.2.1, gb_trans (grown_put w ⟨g, 3, none⟩ _) h.2.2⟩))).mono ?_; rintro e w' ⟨rfl, w2, ⟨hR, hgr⟩, rfl⟩)
 obtain ⟨wa, hwa⟩ : ∃ wa, wa = ((w2.setCell ⟨g, 2, none⟩ (.int .u32 1)).setCell ⟨g, 3, none⟩ (.int .i32 0)).drew := ⟨_, rfl⟩
 have Ka := yH (show Blk wa g 582 (tabC 1 0 256) by rw [hwa, ← tabC_st 1 1 0 256, ← tabC_done 0 1 1 256]; exact ((hR.put 2 _).put 3 _).drew)
 have Ga := yH (show w.grownBy wa (some g) by rw [hwa]; exact gb_trans hgr (gb_trans (grown_put w2 ⟨g, 2, none⟩ (.int .u32 1)) (gb_put _ ⟨g, 3, none⟩ _)))
 rw [← hwa]
 clear hwa hR hgr k0
 go_upto_region 6 with fail
 have e0 : bits .xor .u32 IntKind.u32.max 0 = wv (crcFrom (~~~(0#32)) (b.take 0)) := by rw [List.take_zero]; decide
 go_loopg [29, 7, 9] n (fun m iv xv _ wr => AdI b g w n m iv xv wr)
 case atStart => exact ⟨0, rfl, by omega, by omega, by omega, by first | rw [e0] | rfl, Ka.out, Ga.out⟩
 case round =>
  obtain ⟨i, rfl, hi, k1, k2, rfl, hk, hb⟩ := hrel
  have HK := yH hk
  have HB := yH hb
  clear hk hb
  by_cases hlt : i < n
  ·have hltI : (i : Int) < (n : Int) := by omega
   obtain ⟨bb, off, hAe, hbb, hce⟩ := (rd_gb HR.out HB.out (HA.out (by omega))).2 (by omega)
   subst hAe
   have cI := hce i hlt
   have bI := HBy.out (b.getD i 0) (by rw [List.getD_eq_getElem?_getD, List.getElem?_eq_getElem (by have := hbl.out; omega)]; exact List.getElem_mem _)
   have HSt := yH (crcFrom_take (~~~(0#32)) b i (by have := hbl.out; omega))
   clear hce
   generalize b.getD i 0 = z at *
   obtain ⟨z, rfl⟩ : ∃ y : Nat, z = y := ⟨z.toNat, by omega⟩
   rw [Int.toNat_natCast] at HSt
   generalize crcFrom (~~~(0#32)) (b.take i) = x at *
   obtain ⟨q, hq⟩ : ∃ q, q = (x.toNat % 256) ^^^ z := ⟨_, rfl⟩
   have hq8 : q < 256 := by rw [hq]; exact Nat.xor_lt_two_pow (n := 8) (by omega) (by omega)
   have eX : bits .xor .u8 (wv x % 256) (z : Int) = (q : Int) := by
    rw [hq, ← bits_xor8 _ _ (by omega) (by omega)]
    unfold wv
    rw [show ((x.toNat % 256 : Nat) : Int) = (x.toNat : Int) % 256 by omega]
   have cT : wr.cell? ⟨g, 5 + q, none⟩ = some (.int .u32 (wv (rowC q))) := HK.out.cell (by rw [tabC_get _ _ _ _ hq8, if_pos hq8]; rfl)
   have HQ := yH hq
   clear hq
   go_wp2
   go_roundg (gk - 1)
   case measure => omega
   case rel => exact ⟨i + 1, by go_num, by omega, by omega, by omega, by rw [HSt.out, HQ.out, byte_val x z (by omega)], HK.out, HB.out⟩
  ·have hltI : ¬ (i : Int) < (n : Int) := by omega
   obtain rfl : i = n := by omega
   go_wp2
   go_ret
   refine ⟨?_, HB.out⟩
   show Ending.returned (.int .u32 (bits .xor .u32 IntKind.u32.max (wv (crcFrom (4294967295#32) (b.take i))))) = _
   rw [List.take_of_length_le (by have := hbl.out; omega)]
   rw [max_xor]
   rfl
set_option maxRecDepth 100000 in
theorem crcadd_any (b : List Int) (A : Option Addr) (n c : Nat) (w : World) (hr : RdI .u8 w A n b) (hB : ∀ z ∈ b, 0 ≤ z ∧ z < 256) (hn : n ≤ 1000000000) :
  Calls Tryz.prog 395 #[.int .u32 0, .slice A n c] w fun e w' => e = .returned (.int .u32 (wv (crcB b))) ∧ Below w.heap.size w w' := by
 have HR := yH hr
 clear hr
 go_enter Tryz.func395, Tryz.ntmps395
 go_wp2_with (first | (go_at_call 421; refine (tabnew_any w).mono ?_; rintro e w1 ⟨g, rfl, hg, hk, hb⟩; have HK := yH hk; have HB := yH hb; clear hk hb) | (go_at_call 422; refine (tabadd_any g b A n c w1 HK.out (HR.out.below HB.out) (fun h0 a e => by obtain ⟨b2, o2, e2, hlt, _⟩ := HR.out.2 h0; rw [e2] at e; injection e with e; rw [← e]; show b2 ≠ g; omega) hB hn).mono ?_))
 rintro e w2 ⟨rfl, hgr⟩
 go_wp2
 go_ret
 exact ⟨rfl, HB.out.grown hgr HB.out.size (fun k hk => by injection hk with hk; omega)⟩
theorem crcsum_any (b : List Int) (A : Option Addr) (n c : Nat) (w : World) (hr : RdI .u8 w A n b) (hB : ∀ z ∈ b, 0 ≤ z ∧ z < 256) (hn : n ≤ 1000000000) :
  Calls Tryz.prog 334 #[.slice A n c] w fun e w' => e = .returned (.int .u32 (wv (crcB b))) ∧ Below w.heap.size w w' := by
 have HR := yH hr
 clear hr
 go_enter Tryz.func334, Tryz.ntmps334
 go_wp2_with (go_at_call 395; refine (crcadd_any b A n c w HR.out hB hn).mono ?_)
 rintro e w2 ⟨rfl, hb⟩
 go_wp2
 go_ret
 exact ⟨rfl, hb⟩
end Go.Proofs.YtffalfacakdhkaaGreatDoor
