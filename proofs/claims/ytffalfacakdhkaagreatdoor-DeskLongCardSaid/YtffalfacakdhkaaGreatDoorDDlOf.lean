/-
  what this claim needs of: DlOf, DlIs (written by cut.py).
-/
import Derived.Test.YtffalfacakdhkaaGreatDoorDDlPlain
import Derived.LaidEql
import Derived.Stop.Asserts
import Derived.RowKitTokens
import Derived.LoopN
namespace Go.Proofs.YtffalfacakdhkaaGreatDoor
open Go.RowKit
set_option linter.unusedVariables false
set_option linter.unusedSimpArgs false

/-- A word's shape: its kind, and what follows. -/
def shapeL (l : List UInt8) : Int × List UInt8 :=
 if l = [114, 101, 97, 100] then (1, [97, 110]) else
 if l = [119, 114, 105, 116, 101] then (2, [97, 98]) else
 if l = [100, 105, 115, 99, 97, 114, 100] then (3, [97, 110]) else
 if l = [102, 108, 117, 115, 104] then (4, []) else
 if l = [115, 110, 97, 112, 115, 104, 111, 116] then (5, []) else
 if l = [100, 101, 108, 101, 116, 101] then (6, [115]) else
 if l = [114, 111, 108, 108, 98, 97, 99, 107] then (7, [115]) else
 if l = [114, 101, 97, 100, 115, 110, 97, 112] then (8, [115, 97, 110]) else
 if l = [99, 108, 101, 97, 110] then (9, [110]) else
 if l = [99, 114, 97, 115, 104] then (10, [102]) else
 if l = [97, 114, 109] then (11, [110]) else
 if l = [115, 116, 97, 116] then (12, []) else
 (0, [])
theorem infoShape : (Tryz.prog.info? 150).map (·.size) = some 2 := by kernel_rfl
def OfPost (l : List UInt8) (w : World) (e : Ending) (w' : World) : Prop :=
 e = .returned (.agg #[.int .u8 (shapeL l).1, .string ⟨(shapeL l).2.toArray⟩]) ∧ Below w.heap.size w w'
set_option maxHeartbeats 1600000 in
theorem of_anyL (s : ByteArray) (w : World) : Calls Tryz.prog 90 #[.string s] w (OfPost s.data.toList w) := by
 have E : ∀ L : List UInt8, (s.toList == L) = decide (s.data.toList = L) := fun L => by rw [ba_list]; exact beq_dec _ _
 generalize s.data.toList = l at *
 by_cases c0 : l = [114, 101, 97, 100]
 ·have HS : Hid (shapeL l = (1, [97, 110])) := yH (by unfold shapeL; rw [if_pos c0])
  have e0 := (E [114, 101, 97, 100]).trans (decide_eq_true c0)
  clear E c0
  go_enter Tryz.func90, Tryz.ntmps90
  go_wp2
  have hb : Below w.heap.size w (w.alloc (Obj.cells #[Value.int .u8 1, Value.string ⟨#[97, 110]⟩] 150)) := (Below.refl _ _).alloc (Nat.le_refl _) _
  refine bodyPost_ret (results_blk rfl _ w.heap.size rfl _ _ (Blk.made w _ _) _ Tryz.underlying150 rfl 2 infoShape rfl) rfl ?_
  exact ⟨by rw [HS.out], hb⟩
 by_cases c1 : l = [119, 114, 105, 116, 101]
 ·have HS : Hid (shapeL l = (2, [97, 98])) := yH (by unfold shapeL; rw [if_neg c0, if_pos c1])
  have e0 := (E [114, 101, 97, 100]).trans (decide_eq_false c0)
  have e1 := (E [119, 114, 105, 116, 101]).trans (decide_eq_true c1)
  clear E c0 c1
  go_enter Tryz.func90, Tryz.ntmps90
  go_wp2
  have hb : Below w.heap.size w (w.alloc (Obj.cells #[Value.int .u8 2, Value.string ⟨#[97, 98]⟩] 150)) := (Below.refl _ _).alloc (Nat.le_refl _) _
  refine bodyPost_ret (results_blk rfl _ w.heap.size rfl _ _ (Blk.made w _ _) _ Tryz.underlying150 rfl 2 infoShape rfl) rfl ?_
  exact ⟨by rw [HS.out], hb⟩
 by_cases c2 : l = [100, 105, 115, 99, 97, 114, 100]
 ·have HS : Hid (shapeL l = (3, [97, 110])) := yH (by unfold shapeL; rw [if_neg c0, if_neg c1, if_pos c2])
  have e0 := (E [114, 101, 97, 100]).trans (decide_eq_false c0)
  have e1 := (E [119, 114, 105, 116, 101]).trans (decide_eq_false c1)
  have e2 := (E [100, 105, 115, 99, 97, 114, 100]).trans (decide_eq_true c2)
  clear E c0 c1 c2
  go_enter Tryz.func90, Tryz.ntmps90
  go_wp2
  have hb : Below w.heap.size w (w.alloc (Obj.cells #[Value.int .u8 3, Value.string ⟨#[97, 110]⟩] 150)) := (Below.refl _ _).alloc (Nat.le_refl _) _
  refine bodyPost_ret (results_blk rfl _ w.heap.size rfl _ _ (Blk.made w _ _) _ Tryz.underlying150 rfl 2 infoShape rfl) rfl ?_
  exact ⟨by rw [HS.out], hb⟩
 by_cases c3 : l = [102, 108, 117, 115, 104]
 ·have HS : Hid (shapeL l = (4, [])) := yH (by unfold shapeL; rw [if_neg c0, if_neg c1, if_neg c2, if_pos c3])
  have e0 := (E [114, 101, 97, 100]).trans (decide_eq_false c0)
  have e1 := (E [119, 114, 105, 116, 101]).trans (decide_eq_false c1)
  have e2 := (E [100, 105, 115, 99, 97, 114, 100]).trans (decide_eq_false c2)
  have e3 := (E [102, 108, 117, 115, 104]).trans (decide_eq_true c3)
  clear E c0 c1 c2 c3
  go_enter Tryz.func90, Tryz.ntmps90
  go_wp2
  have hb : Below w.heap.size w (w.alloc (Obj.cells #[Value.int .u8 4, Value.string ⟨#[]⟩] 150)) := (Below.refl _ _).alloc (Nat.le_refl _) _
  refine bodyPost_ret (results_blk rfl _ w.heap.size rfl _ _ (Blk.made w _ _) _ Tryz.underlying150 rfl 2 infoShape rfl) rfl ?_
  exact ⟨by rw [HS.out], hb⟩
 by_cases c4 : l = [115, 110, 97, 112, 115, 104, 111, 116]
 ·have HS : Hid (shapeL l = (5, [])) := yH (by unfold shapeL; rw [if_neg c0, if_neg c1, if_neg c2, if_neg c3, if_pos c4])
  have e0 := (E [114, 101, 97, 100]).trans (decide_eq_false c0)
  have e1 := (E [119, 114, 105, 116, 101]).trans (decide_eq_false c1)
  have e2 := (E [100, 105, 115, 99, 97, 114, 100]).trans (decide_eq_false c2)
  have e3 := (E [102, 108, 117, 115, 104]).trans (decide_eq_false c3)
  have e4 := (E [115, 110, 97, 112, 115, 104, 111, 116]).trans (decide_eq_true c4)
  clear E c0 c1 c2 c3 c4
  go_enter Tryz.func90, Tryz.ntmps90
  go_wp2
  have hb : Below w.heap.size w (w.alloc (Obj.cells #[Value.int .u8 5, Value.string ⟨#[]⟩] 150)) := (Below.refl _ _).alloc (Nat.le_refl _) _
  refine bodyPost_ret (results_blk rfl _ w.heap.size rfl _ _ (Blk.made w _ _) _ Tryz.underlying150 rfl 2 infoShape rfl) rfl ?_
  exact ⟨by rw [HS.out], hb⟩
 by_cases c5 : l = [100, 101, 108, 101, 116, 101]
 ·have HS : Hid (shapeL l = (6, [115])) := yH (by unfold shapeL; rw [if_neg c0, if_neg c1, if_neg c2, if_neg c3, if_neg c4, if_pos c5])
  have e0 := (E [114, 101, 97, 100]).trans (decide_eq_false c0)
  have e1 := (E [119, 114, 105, 116, 101]).trans (decide_eq_false c1)
  have e2 := (E [100, 105, 115, 99, 97, 114, 100]).trans (decide_eq_false c2)
  have e3 := (E [102, 108, 117, 115, 104]).trans (decide_eq_false c3)
  have e4 := (E [115, 110, 97, 112, 115, 104, 111, 116]).trans (decide_eq_false c4)
  have e5 := (E [100, 101, 108, 101, 116, 101]).trans (decide_eq_true c5)
  clear E c0 c1 c2 c3 c4 c5
  go_enter Tryz.func90, Tryz.ntmps90
  go_wp2
  have hb : Below w.heap.size w (w.alloc (Obj.cells #[Value.int .u8 6, Value.string ⟨#[115]⟩] 150)) := (Below.refl _ _).alloc (Nat.le_refl _) _
  refine bodyPost_ret (results_blk rfl _ w.heap.size rfl _ _ (Blk.made w _ _) _ Tryz.underlying150 rfl 2 infoShape rfl) rfl ?_
  exact ⟨by rw [HS.out], hb⟩
 by_cases c6 : l = [114, 111, 108, 108, 98, 97, 99, 107]
 ·have HS : Hid (shapeL l = (7, [115])) := yH (by unfold shapeL; rw [if_neg c0, if_neg c1, if_neg c2, if_neg c3, if_neg c4, if_neg c5, if_pos c6])
  have e0 := (E [114, 101, 97, 100]).trans (decide_eq_false c0)
  have e1 := (E [119, 114, 105, 116, 101]).trans (decide_eq_false c1)
  have e2 := (E [100, 105, 115, 99, 97, 114, 100]).trans (decide_eq_false c2)
  have e3 := (E [102, 108, 117, 115, 104]).trans (decide_eq_false c3)
  have e4 := (E [115, 110, 97, 112, 115, 104, 111, 116]).trans (decide_eq_false c4)
  have e5 := (E [100, 101, 108, 101, 116, 101]).trans (decide_eq_false c5)
  have e6 := (E [114, 111, 108, 108, 98, 97, 99, 107]).trans (decide_eq_true c6)
  clear E c0 c1 c2 c3 c4 c5 c6
  go_enter Tryz.func90, Tryz.ntmps90
  go_wp2
  have hb : Below w.heap.size w (w.alloc (Obj.cells #[Value.int .u8 7, Value.string ⟨#[115]⟩] 150)) := (Below.refl _ _).alloc (Nat.le_refl _) _
  refine bodyPost_ret (results_blk rfl _ w.heap.size rfl _ _ (Blk.made w _ _) _ Tryz.underlying150 rfl 2 infoShape rfl) rfl ?_
  exact ⟨by rw [HS.out], hb⟩
 by_cases c7 : l = [114, 101, 97, 100, 115, 110, 97, 112]
 ·have HS : Hid (shapeL l = (8, [115, 97, 110])) := yH (by unfold shapeL; rw [if_neg c0, if_neg c1, if_neg c2, if_neg c3, if_neg c4, if_neg c5, if_neg c6, if_pos c7])
  have e0 := (E [114, 101, 97, 100]).trans (decide_eq_false c0)
  have e1 := (E [119, 114, 105, 116, 101]).trans (decide_eq_false c1)
  have e2 := (E [100, 105, 115, 99, 97, 114, 100]).trans (decide_eq_false c2)
  have e3 := (E [102, 108, 117, 115, 104]).trans (decide_eq_false c3)
  have e4 := (E [115, 110, 97, 112, 115, 104, 111, 116]).trans (decide_eq_false c4)
  have e5 := (E [100, 101, 108, 101, 116, 101]).trans (decide_eq_false c5)
  have e6 := (E [114, 111, 108, 108, 98, 97, 99, 107]).trans (decide_eq_false c6)
  have e7 := (E [114, 101, 97, 100, 115, 110, 97, 112]).trans (decide_eq_true c7)
  clear E c0 c1 c2 c3 c4 c5 c6 c7
  go_enter Tryz.func90, Tryz.ntmps90
  go_wp2
  have hb : Below w.heap.size w (w.alloc (Obj.cells #[Value.int .u8 8, Value.string ⟨#[115, 97, 110]⟩] 150)) := (Below.refl _ _).alloc (Nat.le_refl _) _
  refine bodyPost_ret (results_blk rfl _ w.heap.size rfl _ _ (Blk.made w _ _) _ Tryz.underlying150 rfl 2 infoShape rfl) rfl ?_
  exact ⟨by rw [HS.out], hb⟩
 by_cases c8 : l = [99, 108, 101, 97, 110]
 ·have HS : Hid (shapeL l = (9, [110])) := yH (by unfold shapeL; rw [if_neg c0, if_neg c1, if_neg c2, if_neg c3, if_neg c4, if_neg c5, if_neg c6, if_neg c7, if_pos c8])
  have e0 := (E [114, 101, 97, 100]).trans (decide_eq_false c0)
  have e1 := (E [119, 114, 105, 116, 101]).trans (decide_eq_false c1)
  have e2 := (E [100, 105, 115, 99, 97, 114, 100]).trans (decide_eq_false c2)
  have e3 := (E [102, 108, 117, 115, 104]).trans (decide_eq_false c3)
  have e4 := (E [115, 110, 97, 112, 115, 104, 111, 116]).trans (decide_eq_false c4)
  have e5 := (E [100, 101, 108, 101, 116, 101]).trans (decide_eq_false c5)
  have e6 := (E [114, 111, 108, 108, 98, 97, 99, 107]).trans (decide_eq_false c6)
  have e7 := (E [114, 101, 97, 100, 115, 110, 97, 112]).trans (decide_eq_false c7)
  have e8 := (E [99, 108, 101, 97, 110]).trans (decide_eq_true c8)
  clear E c0 c1 c2 c3 c4 c5 c6 c7 c8
  go_enter Tryz.func90, Tryz.ntmps90
  go_wp2
  have hb : Below w.heap.size w (w.alloc (Obj.cells #[Value.int .u8 9, Value.string ⟨#[110]⟩] 150)) := (Below.refl _ _).alloc (Nat.le_refl _) _
  refine bodyPost_ret (results_blk rfl _ w.heap.size rfl _ _ (Blk.made w _ _) _ Tryz.underlying150 rfl 2 infoShape rfl) rfl ?_
  exact ⟨by rw [HS.out], hb⟩
 by_cases c9 : l = [99, 114, 97, 115, 104]
 ·have HS : Hid (shapeL l = (10, [102])) := yH (by unfold shapeL; rw [if_neg c0, if_neg c1, if_neg c2, if_neg c3, if_neg c4, if_neg c5, if_neg c6, if_neg c7, if_neg c8, if_pos c9])
  have e0 := (E [114, 101, 97, 100]).trans (decide_eq_false c0)
  have e1 := (E [119, 114, 105, 116, 101]).trans (decide_eq_false c1)
  have e2 := (E [100, 105, 115, 99, 97, 114, 100]).trans (decide_eq_false c2)
  have e3 := (E [102, 108, 117, 115, 104]).trans (decide_eq_false c3)
  have e4 := (E [115, 110, 97, 112, 115, 104, 111, 116]).trans (decide_eq_false c4)
  have e5 := (E [100, 101, 108, 101, 116, 101]).trans (decide_eq_false c5)
  have e6 := (E [114, 111, 108, 108, 98, 97, 99, 107]).trans (decide_eq_false c6)
  have e7 := (E [114, 101, 97, 100, 115, 110, 97, 112]).trans (decide_eq_false c7)
  have e8 := (E [99, 108, 101, 97, 110]).trans (decide_eq_false c8)
  have e9 := (E [99, 114, 97, 115, 104]).trans (decide_eq_true c9)
  clear E c0 c1 c2 c3 c4 c5 c6 c7 c8 c9
  go_enter Tryz.func90, Tryz.ntmps90
  go_wp2
  have hb : Below w.heap.size w (w.alloc (Obj.cells #[Value.int .u8 10, Value.string ⟨#[102]⟩] 150)) := (Below.refl _ _).alloc (Nat.le_refl _) _
  refine bodyPost_ret (results_blk rfl _ w.heap.size rfl _ _ (Blk.made w _ _) _ Tryz.underlying150 rfl 2 infoShape rfl) rfl ?_
  exact ⟨by rw [HS.out], hb⟩
 by_cases c10 : l = [97, 114, 109]
 ·have HS : Hid (shapeL l = (11, [110])) := yH (by unfold shapeL; rw [if_neg c0, if_neg c1, if_neg c2, if_neg c3, if_neg c4, if_neg c5, if_neg c6, if_neg c7, if_neg c8, if_neg c9, if_pos c10])
  have e0 := (E [114, 101, 97, 100]).trans (decide_eq_false c0)
  have e1 := (E [119, 114, 105, 116, 101]).trans (decide_eq_false c1)
  have e2 := (E [100, 105, 115, 99, 97, 114, 100]).trans (decide_eq_false c2)
  have e3 := (E [102, 108, 117, 115, 104]).trans (decide_eq_false c3)
  have e4 := (E [115, 110, 97, 112, 115, 104, 111, 116]).trans (decide_eq_false c4)
  have e5 := (E [100, 101, 108, 101, 116, 101]).trans (decide_eq_false c5)
  have e6 := (E [114, 111, 108, 108, 98, 97, 99, 107]).trans (decide_eq_false c6)
  have e7 := (E [114, 101, 97, 100, 115, 110, 97, 112]).trans (decide_eq_false c7)
  have e8 := (E [99, 108, 101, 97, 110]).trans (decide_eq_false c8)
  have e9 := (E [99, 114, 97, 115, 104]).trans (decide_eq_false c9)
  have e10 := (E [97, 114, 109]).trans (decide_eq_true c10)
  clear E c0 c1 c2 c3 c4 c5 c6 c7 c8 c9 c10
  go_enter Tryz.func90, Tryz.ntmps90
  go_wp2
  have hb : Below w.heap.size w (w.alloc (Obj.cells #[Value.int .u8 11, Value.string ⟨#[110]⟩] 150)) := (Below.refl _ _).alloc (Nat.le_refl _) _
  refine bodyPost_ret (results_blk rfl _ w.heap.size rfl _ _ (Blk.made w _ _) _ Tryz.underlying150 rfl 2 infoShape rfl) rfl ?_
  exact ⟨by rw [HS.out], hb⟩
 by_cases c11 : l = [115, 116, 97, 116]
 ·have HS : Hid (shapeL l = (12, [])) := yH (by unfold shapeL; rw [if_neg c0, if_neg c1, if_neg c2, if_neg c3, if_neg c4, if_neg c5, if_neg c6, if_neg c7, if_neg c8, if_neg c9, if_neg c10, if_pos c11])
  have e0 := (E [114, 101, 97, 100]).trans (decide_eq_false c0)
  have e1 := (E [119, 114, 105, 116, 101]).trans (decide_eq_false c1)
  have e2 := (E [100, 105, 115, 99, 97, 114, 100]).trans (decide_eq_false c2)
  have e3 := (E [102, 108, 117, 115, 104]).trans (decide_eq_false c3)
  have e4 := (E [115, 110, 97, 112, 115, 104, 111, 116]).trans (decide_eq_false c4)
  have e5 := (E [100, 101, 108, 101, 116, 101]).trans (decide_eq_false c5)
  have e6 := (E [114, 111, 108, 108, 98, 97, 99, 107]).trans (decide_eq_false c6)
  have e7 := (E [114, 101, 97, 100, 115, 110, 97, 112]).trans (decide_eq_false c7)
  have e8 := (E [99, 108, 101, 97, 110]).trans (decide_eq_false c8)
  have e9 := (E [99, 114, 97, 115, 104]).trans (decide_eq_false c9)
  have e10 := (E [97, 114, 109]).trans (decide_eq_false c10)
  have e11 := (E [115, 116, 97, 116]).trans (decide_eq_true c11)
  clear E c0 c1 c2 c3 c4 c5 c6 c7 c8 c9 c10 c11
  go_enter Tryz.func90, Tryz.ntmps90
  go_wp2
  have hb : Below w.heap.size w (w.alloc (Obj.cells #[Value.int .u8 12, Value.string ⟨#[]⟩] 150)) := (Below.refl _ _).alloc (Nat.le_refl _) _
  refine bodyPost_ret (results_blk rfl _ w.heap.size rfl _ _ (Blk.made w _ _) _ Tryz.underlying150 rfl 2 infoShape rfl) rfl ?_
  exact ⟨by rw [HS.out], hb⟩
 have HS : Hid (shapeL l = (0, [])) := yH (by unfold shapeL; rw [if_neg c0, if_neg c1, if_neg c2, if_neg c3, if_neg c4, if_neg c5, if_neg c6, if_neg c7, if_neg c8, if_neg c9, if_neg c10, if_neg c11])
 have e0 := (E [114, 101, 97, 100]).trans (decide_eq_false c0)
 have e1 := (E [119, 114, 105, 116, 101]).trans (decide_eq_false c1)
 have e2 := (E [100, 105, 115, 99, 97, 114, 100]).trans (decide_eq_false c2)
 have e3 := (E [102, 108, 117, 115, 104]).trans (decide_eq_false c3)
 have e4 := (E [115, 110, 97, 112, 115, 104, 111, 116]).trans (decide_eq_false c4)
 have e5 := (E [100, 101, 108, 101, 116, 101]).trans (decide_eq_false c5)
 have e6 := (E [114, 111, 108, 108, 98, 97, 99, 107]).trans (decide_eq_false c6)
 have e7 := (E [114, 101, 97, 100, 115, 110, 97, 112]).trans (decide_eq_false c7)
 have e8 := (E [99, 108, 101, 97, 110]).trans (decide_eq_false c8)
 have e9 := (E [99, 114, 97, 115, 104]).trans (decide_eq_false c9)
 have e10 := (E [97, 114, 109]).trans (decide_eq_false c10)
 have e11 := (E [115, 116, 97, 116]).trans (decide_eq_false c11)
 clear E c0 c1 c2 c3 c4 c5 c6 c7 c8 c9 c10 c11
 go_enter Tryz.func90, Tryz.ntmps90
 go_wp2
 have hb : Below w.heap.size w (w.alloc (Obj.cells #[Value.int .u8 0, Value.string ⟨#[]⟩] 150)) := (Below.refl _ _).alloc (Nat.le_refl _) _
 refine bodyPost_ret (results_blk rfl _ w.heap.size rfl _ _ (Blk.made w _ _) _ Tryz.underlying150 rfl 2 infoShape rfl) rfl ?_
 exact ⟨by rw [HS.out], hb⟩
end Go.Proofs.YtffalfacakdhkaaGreatDoor
namespace Go.Proofs.YtffalfacakdhkaaGreatDoor
open Go.RowKit Go.Extern.Stop Go.Stop Go.Extern
set_option linter.unusedVariables false
set_option linter.unusedSimpArgs false

theorem is_eq (w : World) : (binOp BinOp.eql 40 (.iface 89 (.agg #[])) (.iface 89 (.agg #[]))).run Tryz.prog w = .ok (.bool true) w := by kernel_rfl
theorem is_type (v : Value) (w : World) : (Extern.ReflectliteType.typeOf #[.iface 89 v]).run Tryz.prog w = .ok (.iface 257 (.agg #[typeHandle Tryz.prog 89])) w := by kernel_rfl
theorem is_comp (w : World) : ((Extern.ReflectliteType.method fun t => do Extern.Rtype.noPackHeld "Comparable" t; pure (.bool (← typeInfo t).comparable)) #[.agg #[typeHandle Tryz.prog 89]]).run Tryz.prog w = .ok (.bool true) w := by kernel_rfl
theorem is_call (w : World) : (callFunc 507 #[.agg #[typeHandle Tryz.prog 89]]).run Tryz.prog w = .ok (.value (.bool true)) w := by
 have h := @run_callFunc_extern Tryz.prog 507 _ (Extern.ReflectliteType.method fun t => do Extern.Rtype.noPackHeld "Comparable" t; pure (.bool (← typeInfo t).comparable)) Tryz.func507 (by kernel_rfl) (by kernel_rfl) (by kernel_rfl) (by kernel_rfl) #[.agg #[typeHandle Tryz.prog 89]] w
 rw [h, is_comp]
 rfl
theorem is_nil (w : World) : Calls Tryz.prog 39 #[.nilIface, wrongV] w fun e w' => e = .returned (.bool false) ∧ w' = w := by
 unfold wrongV
 have hn := run_eql_iface_nil_left (P := Tryz.prog) w 89 (.agg #[]) Tryz.underlying40
 go_enter Tryz.func39, Tryz.ntmps39
 go_wp2
 go_ret
 exact ⟨rfl, rfl⟩
set_option maxRecDepth 200000 in
theorem is_wrong (w : World) : Calls Tryz.prog 39 #[wrongV, wrongV] w fun e w' => e = .returned (.bool true) ∧ w' = w := by
 unfold wrongV
 have h8 := @run_callFunc_extern Tryz.prog 93 _ Extern.ReflectliteType.typeOf Tryz.func93 (by kernel_rfl) (by kernel_rfl) (by kernel_rfl) (by kernel_rfl)
 have tT := is_type
 have cT := is_call
 have heq := is_eq
 go_enter Tryz.func39, Tryz.ntmps39
 go_wp2
 refine wp_loop_rounds 1 ?_
 rw [rounds_succ]
 go_wp2
 go_ret
 exact ⟨rfl, rfl⟩
end Go.Proofs.YtffalfacakdhkaaGreatDoor
