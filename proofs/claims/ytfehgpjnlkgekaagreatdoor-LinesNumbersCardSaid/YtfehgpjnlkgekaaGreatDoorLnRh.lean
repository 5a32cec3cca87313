/-
  the document's hex, shape: walked.
-/
import Derived.Test.YtfehgpjnlkgekaaGreatDoorLnRn
namespace Go.Proofs.YtfehgpjnlkgekaaGreatDoor
open Go.RowKit
set_option linter.unusedVariables false
set_option linter.unusedSimpArgs false

def RShape (l : List UInt8) (w : World) (e : Ending) (w' : World) : Prop :=
  e = .returned (.tuple #[.int .u8 (shapeL l).1, .string ⟨(shapeL l).2.toArray⟩]) ∧ w' = w
set_option maxHeartbeats 1600000 in
theorem rshape_any (s : ByteArray) (w : World) : Calls Tryz.prog 20 #[.string s] w (RShape s.data.toList w) := by
  have E : ∀ L : List UInt8, (s.toList == L) = decide (s.data.toList = L) := fun L => by rw [ba_list]; exact beq_dec _ _
  generalize s.data.toList = l at *
  by_cases c0 : l = [114, 101, 97, 100]
  · have HS : Hid (shapeL l = (1, [97, 110])) := Lib.hid (by unfold shapeL; rw [if_pos c0])
    have e0 := (E [114, 101, 97, 100]).trans (decide_eq_true c0)
    clear E c0
    go_enter Tryz.func20, Tryz.ntmps20
    go_wp2
    go_ret2
    exact ⟨by rw [HS.out]; rfl, rfl⟩
  by_cases c1 : l = [119, 114, 105, 116, 101]
  · have HS : Hid (shapeL l = (2, [97, 98])) := Lib.hid (by unfold shapeL; rw [if_neg c0, if_pos c1])
    have e0 := (E [114, 101, 97, 100]).trans (decide_eq_false c0)
    have e1 := (E [119, 114, 105, 116, 101]).trans (decide_eq_true c1)
    clear E c0 c1
    go_enter Tryz.func20, Tryz.ntmps20
    go_wp2
    go_ret2
    exact ⟨by rw [HS.out]; rfl, rfl⟩
  by_cases c2 : l = [100, 105, 115, 99, 97, 114, 100]
  · have HS : Hid (shapeL l = (3, [97, 110])) := Lib.hid (by unfold shapeL; rw [if_neg c0, if_neg c1, if_pos c2])
    have e0 := (E [114, 101, 97, 100]).trans (decide_eq_false c0)
    have e1 := (E [119, 114, 105, 116, 101]).trans (decide_eq_false c1)
    have e2 := (E [100, 105, 115, 99, 97, 114, 100]).trans (decide_eq_true c2)
    clear E c0 c1 c2
    go_enter Tryz.func20, Tryz.ntmps20
    go_wp2
    go_ret2
    exact ⟨by rw [HS.out]; rfl, rfl⟩
  by_cases c3 : l = [102, 108, 117, 115, 104]
  · have HS : Hid (shapeL l = (4, [])) := Lib.hid (by unfold shapeL; rw [if_neg c0, if_neg c1, if_neg c2, if_pos c3])
    have e0 := (E [114, 101, 97, 100]).trans (decide_eq_false c0)
    have e1 := (E [119, 114, 105, 116, 101]).trans (decide_eq_false c1)
    have e2 := (E [100, 105, 115, 99, 97, 114, 100]).trans (decide_eq_false c2)
    have e3 := (E [102, 108, 117, 115, 104]).trans (decide_eq_true c3)
    clear E c0 c1 c2 c3
    go_enter Tryz.func20, Tryz.ntmps20
    go_wp2
    go_ret2
    exact ⟨by rw [HS.out]; rfl, rfl⟩
  by_cases c4 : l = [115, 110, 97, 112, 115, 104, 111, 116]
  · have HS : Hid (shapeL l = (5, [])) := Lib.hid (by unfold shapeL; rw [if_neg c0, if_neg c1, if_neg c2, if_neg c3, if_pos c4])
    have e0 := (E [114, 101, 97, 100]).trans (decide_eq_false c0)
    have e1 := (E [119, 114, 105, 116, 101]).trans (decide_eq_false c1)
    have e2 := (E [100, 105, 115, 99, 97, 114, 100]).trans (decide_eq_false c2)
    have e3 := (E [102, 108, 117, 115, 104]).trans (decide_eq_false c3)
    have e4 := (E [115, 110, 97, 112, 115, 104, 111, 116]).trans (decide_eq_true c4)
    clear E c0 c1 c2 c3 c4
    go_enter Tryz.func20, Tryz.ntmps20
    go_wp2
    go_ret2
    exact ⟨by rw [HS.out]; rfl, rfl⟩
  by_cases c5 : l = [100, 101, 108, 101, 116, 101]
  · have HS : Hid (shapeL l = (6, [115])) := Lib.hid (by unfold shapeL; rw [if_neg c0, if_neg c1, if_neg c2, if_neg c3, if_neg c4, if_pos c5])
    have e0 := (E [114, 101, 97, 100]).trans (decide_eq_false c0)
    have e1 := (E [119, 114, 105, 116, 101]).trans (decide_eq_false c1)
    have e2 := (E [100, 105, 115, 99, 97, 114, 100]).trans (decide_eq_false c2)
    have e3 := (E [102, 108, 117, 115, 104]).trans (decide_eq_false c3)
    have e4 := (E [115, 110, 97, 112, 115, 104, 111, 116]).trans (decide_eq_false c4)
    have e5 := (E [100, 101, 108, 101, 116, 101]).trans (decide_eq_true c5)
    clear E c0 c1 c2 c3 c4 c5
    go_enter Tryz.func20, Tryz.ntmps20
    go_wp2
    go_ret2
    exact ⟨by rw [HS.out]; rfl, rfl⟩
  by_cases c6 : l = [114, 111, 108, 108, 98, 97, 99, 107]
  · have HS : Hid (shapeL l = (7, [115])) := Lib.hid (by unfold shapeL; rw [if_neg c0, if_neg c1, if_neg c2, if_neg c3, if_neg c4, if_neg c5, if_pos c6])
    have e0 := (E [114, 101, 97, 100]).trans (decide_eq_false c0)
    have e1 := (E [119, 114, 105, 116, 101]).trans (decide_eq_false c1)
    have e2 := (E [100, 105, 115, 99, 97, 114, 100]).trans (decide_eq_false c2)
    have e3 := (E [102, 108, 117, 115, 104]).trans (decide_eq_false c3)
    have e4 := (E [115, 110, 97, 112, 115, 104, 111, 116]).trans (decide_eq_false c4)
    have e5 := (E [100, 101, 108, 101, 116, 101]).trans (decide_eq_false c5)
    have e6 := (E [114, 111, 108, 108, 98, 97, 99, 107]).trans (decide_eq_true c6)
    clear E c0 c1 c2 c3 c4 c5 c6
    go_enter Tryz.func20, Tryz.ntmps20
    go_wp2
    go_ret2
    exact ⟨by rw [HS.out]; rfl, rfl⟩
  by_cases c7 : l = [114, 101, 97, 100, 115, 110, 97, 112]
  · have HS : Hid (shapeL l = (8, [115, 97, 110])) := Lib.hid (by unfold shapeL; rw [if_neg c0, if_neg c1, if_neg c2, if_neg c3, if_neg c4, if_neg c5, if_neg c6, if_pos c7])
    have e0 := (E [114, 101, 97, 100]).trans (decide_eq_false c0)
    have e1 := (E [119, 114, 105, 116, 101]).trans (decide_eq_false c1)
    have e2 := (E [100, 105, 115, 99, 97, 114, 100]).trans (decide_eq_false c2)
    have e3 := (E [102, 108, 117, 115, 104]).trans (decide_eq_false c3)
    have e4 := (E [115, 110, 97, 112, 115, 104, 111, 116]).trans (decide_eq_false c4)
    have e5 := (E [100, 101, 108, 101, 116, 101]).trans (decide_eq_false c5)
    have e6 := (E [114, 111, 108, 108, 98, 97, 99, 107]).trans (decide_eq_false c6)
    have e7 := (E [114, 101, 97, 100, 115, 110, 97, 112]).trans (decide_eq_true c7)
    clear E c0 c1 c2 c3 c4 c5 c6 c7
    go_enter Tryz.func20, Tryz.ntmps20
    go_wp2
    go_ret2
    exact ⟨by rw [HS.out]; rfl, rfl⟩
  by_cases c8 : l = [99, 108, 101, 97, 110]
  · have HS : Hid (shapeL l = (9, [110])) := Lib.hid (by unfold shapeL; rw [if_neg c0, if_neg c1, if_neg c2, if_neg c3, if_neg c4, if_neg c5, if_neg c6, if_neg c7, if_pos c8])
    have e0 := (E [114, 101, 97, 100]).trans (decide_eq_false c0)
    have e1 := (E [119, 114, 105, 116, 101]).trans (decide_eq_false c1)
    have e2 := (E [100, 105, 115, 99, 97, 114, 100]).trans (decide_eq_false c2)
    have e3 := (E [102, 108, 117, 115, 104]).trans (decide_eq_false c3)
    have e4 := (E [115, 110, 97, 112, 115, 104, 111, 116]).trans (decide_eq_false c4)
    have e5 := (E [100, 101, 108, 101, 116, 101]).trans (decide_eq_false c5)
    have e6 := (E [114, 111, 108, 108, 98, 97, 99, 107]).trans (decide_eq_false c6)
    have e7 := (E [114, 101, 97, 100, 115, 110, 97, 112]).trans (decide_eq_false c7)
    have e8 := (E [99, 108, 101, 97, 110]).trans (decide_eq_true c8)
    clear E c0 c1 c2 c3 c4 c5 c6 c7 c8
    go_enter Tryz.func20, Tryz.ntmps20
    go_wp2
    go_ret2
    exact ⟨by rw [HS.out]; rfl, rfl⟩
  by_cases c9 : l = [99, 114, 97, 115, 104]
  · have HS : Hid (shapeL l = (10, [102])) := Lib.hid (by unfold shapeL; rw [if_neg c0, if_neg c1, if_neg c2, if_neg c3, if_neg c4, if_neg c5, if_neg c6, if_neg c7, if_neg c8, if_pos c9])
    have e0 := (E [114, 101, 97, 100]).trans (decide_eq_false c0)
    have e1 := (E [119, 114, 105, 116, 101]).trans (decide_eq_false c1)
    have e2 := (E [100, 105, 115, 99, 97, 114, 100]).trans (decide_eq_false c2)
    have e3 := (E [102, 108, 117, 115, 104]).trans (decide_eq_false c3)
    have e4 := (E [115, 110, 97, 112, 115, 104, 111, 116]).trans (decide_eq_false c4)
    have e5 := (E [100, 101, 108, 101, 116, 101]).trans (decide_eq_false c5)
    have e6 := (E [114, 111, 108, 108, 98, 97, 99, 107]).trans (decide_eq_false c6)
    have e7 := (E [114, 101, 97, 100, 115, 110, 97, 112]).trans (decide_eq_false c7)
    have e8 := (E [99, 108, 101, 97, 110]).trans (decide_eq_false c8)
    have e9 := (E [99, 114, 97, 115, 104]).trans (decide_eq_true c9)
    clear E c0 c1 c2 c3 c4 c5 c6 c7 c8 c9
    go_enter Tryz.func20, Tryz.ntmps20
    go_wp2
    go_ret2
    exact ⟨by rw [HS.out]; rfl, rfl⟩
  by_cases c10 : l = [97, 114, 109]
  · have HS : Hid (shapeL l = (11, [110])) := Lib.hid (by unfold shapeL; rw [if_neg c0, if_neg c1, if_neg c2, if_neg c3, if_neg c4, if_neg c5, if_neg c6, if_neg c7, if_neg c8, if_neg c9, if_pos c10])
    have e0 := (E [114, 101, 97, 100]).trans (decide_eq_false c0)
    have e1 := (E [119, 114, 105, 116, 101]).trans (decide_eq_false c1)
    have e2 := (E [100, 105, 115, 99, 97, 114, 100]).trans (decide_eq_false c2)
    have e3 := (E [102, 108, 117, 115, 104]).trans (decide_eq_false c3)
    have e4 := (E [115, 110, 97, 112, 115, 104, 111, 116]).trans (decide_eq_false c4)
    have e5 := (E [100, 101, 108, 101, 116, 101]).trans (decide_eq_false c5)
    have e6 := (E [114, 111, 108, 108, 98, 97, 99, 107]).trans (decide_eq_false c6)
    have e7 := (E [114, 101, 97, 100, 115, 110, 97, 112]).trans (decide_eq_false c7)
    have e8 := (E [99, 108, 101, 97, 110]).trans (decide_eq_false c8)
    have e9 := (E [99, 114, 97, 115, 104]).trans (decide_eq_false c9)
    have e10 := (E [97, 114, 109]).trans (decide_eq_true c10)
    clear E c0 c1 c2 c3 c4 c5 c6 c7 c8 c9 c10
    go_enter Tryz.func20, Tryz.ntmps20
    go_wp2
    go_ret2
    exact ⟨by rw [HS.out]; rfl, rfl⟩
  by_cases c11 : l = [115, 116, 97, 116]
  · have HS : Hid (shapeL l = (12, [])) := Lib.hid (by unfold shapeL; rw [if_neg c0, if_neg c1, if_neg c2, if_neg c3, if_neg c4, if_neg c5, if_neg c6, if_neg c7, if_neg c8, if_neg c9, if_neg c10, if_pos c11])
    have e0 := (E [114, 101, 97, 100]).trans (decide_eq_false c0)
    have e1 := (E [119, 114, 105, 116, 101]).trans (decide_eq_false c1)
    have e2 := (E [100, 105, 115, 99, 97, 114, 100]).trans (decide_eq_false c2)
    have e3 := (E [102, 108, 117, 115, 104]).trans (decide_eq_false c3)
    have e4 := (E [115, 110, 97, 112, 115, 104, 111, 116]).trans (decide_eq_false c4)
    have e5 := (E [100, 101, 108, 101, 116, 101]).trans (decide_eq_false c5)
    have e6 := (E [114, 111, 108, 108, 98, 97, 99, 107]).trans (decide_eq_false c6)
    have e7 := (E [114, 101, 97, 100, 115, 110, 97, 112]).trans (decide_eq_false c7)
    have e8 := (E [99, 108, 101, 97, 110]).trans (decide_eq_false c8)
    have e9 := (E [99, 114, 97, 115, 104]).trans (decide_eq_false c9)
    have e10 := (E [97, 114, 109]).trans (decide_eq_false c10)
    have e11 := (E [115, 116, 97, 116]).trans (decide_eq_true c11)
    clear E c0 c1 c2 c3 c4 c5 c6 c7 c8 c9 c10 c11
    go_enter Tryz.func20, Tryz.ntmps20
    go_wp2
    go_ret2
    exact ⟨by rw [HS.out]; rfl, rfl⟩
  have HS : Hid (shapeL l = (0, [])) := Lib.hid (by unfold shapeL; rw [if_neg c0, if_neg c1, if_neg c2, if_neg c3, if_neg c4, if_neg c5, if_neg c6, if_neg c7, if_neg c8, if_neg c9, if_neg c10, if_neg c11])
  have e0 := (E [114, 101, 97, 100]).trans (decide_eq_false c0)
  have e1 := (E [119, 114, 105, 116, 101]).trans (decide_eq_false c1)
  have e2 := (E [100, 105, 115, 99, 97, 114, 100]).trans (decide_eq_false c2)
  have e3 := (E [102, 108, 117, 115, 104]).trans (decide_eq_false c3)
  have e4 := (E [115, 110, 97, 112, 115, 104, 111, 116]).trans (decide_eq_false c4)
  have e5 := (E [100, 101, 108, 101, 116, 101]).trans (decide_eq_false c5)
  have e6 := (E [114, 111, 108, 108, 98, 97, 99, 107]).trans (decide_eq_false c6)
  have e7 := (E [114, 101, 97, 100, 115, 110, 97, 112]).trans (decide_eq_false c7)
  have e8 := (E [99, 108, 101, 97, 110]).trans (decide_eq_false c8)
  have e9 := (E [99, 114, 97, 115, 104]).trans (decide_eq_false c9)
  have e10 := (E [97, 114, 109]).trans (decide_eq_false c10)
  have e11 := (E [115, 116, 97, 116]).trans (decide_eq_false c11)
  clear E c0 c1 c2 c3 c4 c5 c6 c7 c8 c9 c10 c11
  go_enter Tryz.func20, Tryz.ntmps20
  go_wp2
  go_ret2
  exact ⟨by rw [HS.out]; rfl, rfl⟩
/-! ### Hex -/
def RUn (l : List UInt8) (w : World) (e : Ending) (w' : World) : Prop :=
  Below w.heap.size w w' ∧ match unhexL l with
    | some o => ∃ A c, e = .returned (.tuple #[.slice A o.length c, .bool true]) ∧ w'.ownsRow w.heap.size 5 1 (.slice A o.length c) o.length (o.map (Value.int .u8))
    | none => ∃ A n c, e = .returned (.tuple #[.slice A n c, .bool false])
theorem pairs_odd {l : List UInt8} (h : l.length = 1) : pairsL l = none := by
  obtain ⟨a, rfl⟩ := List.length_eq_one_iff.1 h
  rfl
theorem digV_bd (c : UInt8) : 0 ≤ digV c ∧ digV c ≤ 16 := by
  unfold digV
  cases h : hexV c with
  | none => simp
  | some x => have := hexV_lt h; simp only; omega
set_option maxRecDepth 100000 in
set_option maxHeartbeats 1600000 in
theorem rhex_any (s : ByteArray) (w : World) (hs : s.size ≤ 100000000) :
    Calls Tryz.prog 22 #[.string s] w (RUn s.data.toList w) := by
  have hsz : s.data.toList.length = s.size := len_ba s
  have e0 : (s.toList == ([110, 111, 110, 101] : List UInt8)) = decide (s.data.toList = noneW) := by
    rw [ba_list]; exact beq_dec _ _
  by_cases hno : s.data.toList = noneW
  · rw [decide_eq_true hno] at e0
    unfold RUn
    unfold unhexL
    rw [if_pos hno]
    simp only
    go_enter Tryz.func22, Tryz.ntmps22
    go_wp2
    go_ret2
    exact ⟨Below.refl _ _, none, 0, rfl, World.ownsRow_nil _ _ _ _⟩
  · rw [decide_eq_false hno] at e0
    have HSz := Lib.hid hsz
    clear hsz
    go_enter Tryz.func22, Tryz.ntmps22
    go_wp2
    go_loopg [4, 5] s.size (UnI s.data.toList s.size w)
    case atStart =>
      refine ⟨0, [], rfl, by omega, by omega, rfl, World.ownsRow_nil _ _ _ _, Below.refl _ _, ?_⟩
      rw [List.drop_zero]
      cases pairsL s.data.toList <;> rfl
    case round =>
      obtain ⟨j, o, rfl, hi, hk, hol, ho, hb, hp⟩ := hrel
      have HO := Lib.hid ho
      have HB := Lib.hid hb
      have HP := Lib.hid hp
      have HL := Lib.hid hol
      have k1 : j + gk ≤ s.size := by omega
      have k2 : s.size ≤ j + gk := by omega
      clear ho hb hp hol hk
      by_cases hlt : j + 1 < s.size
      · have hltI : (j : Int) + 1 < (s.size : Int) := by omega
        have hltJ : (j : Int) < (s.size : Int) := by omega
        have g1 := ba_get s j (by omega)
        have g2 := ba_get s (j + 1) hlt
        have HD := Lib.hid (drop2 (l := s.data.toList) (j := j) (by have := HSz.out; omega))
        generalize s.data.toList.getD j 0 = ca at *
        generalize s.data.toList.getD (j + 1) 0 = cb at *
        go_wp2
        refine wp_region_qs (fun _ _ => True) [(0, some 2), (1, some 2), (2, some 1), (4, some 2), (5, some 2), (6, some 2), (7, some 1), (3, none), (8, none), (9, some 2), (10, some 2)] (by kernel_rfl) (by kernel_rfl) (by kernel_rfl) (by kernel_rfl) (by kernel_rfl) (fun _ _ _ _ _ h => h) trivial ?_
        simp only [List.map_cons, List.map_nil, List.getD_cons_succ, List.getD_cons_zero]
        (repeat (first | (refine qs_now (v := ?_) (by rfl) ?_ ?_; rotate_left 1; (· (intro w' hS; go_simp; (try (simp only [↓IntWalk.iteOmega]; go_simp)); (try simp (disch := omega) only [IntWalk.i64_in]); try with_reducible rfl)); simp only [Act.put, List.setIfInBounds_toArray, List.set_cons_zero, List.set_cons_succ]) | (refine qs_run (v := ?_) (by rfl) ?_ ?_; rotate_left 1; (· (intro j w' hS; go_simp; (try (simp only [↓IntWalk.iteOmega]; go_simp)); (try simp (disch := omega) only [IntWalk.i64_in]); try with_reducible rfl)); simp only [Act.put, List.setIfInBounds_toArray, List.set_cons_zero, List.set_cons_succ]) | (refine qs_mid (v := ?_) (by rfl) ?_ ?_; rotate_left 1; (· (intro j w' hj1 hj2 hS; go_simp; (try (simp only [↓IntWalk.iteOmega]; go_simp)); (try simp (disch := omega) only [IntWalk.i64_in]); try with_reducible rfl)); simp only [Act.put, List.setIfInBounds_toArray, List.set_cons_zero, List.set_cons_succ]) | (refine qs_skip (by rfl) ?_; simp only [Act.put, List.setIfInBounds_toArray, List.set_cons_zero, List.set_cons_succ])))
        refine qs_act ?_
        go_wp2_with fail
        refine (rdigit_any ca _).mono ?_
        rintro ev w1 ⟨rfl, rfl⟩
        go_wp2
        refine ⟨trivial, ?_⟩
        refine qs_act ?_
        go_wp2_with fail
        refine (rdigit_any cb _).mono ?_
        rintro ev w1 ⟨rfl, rfl⟩
        go_wp2
        refine ⟨trivial, ?_⟩
        (repeat (first | (refine qs_now (v := ?_) (by rfl) ?_ ?_; rotate_left 1; (· (intro w' hS; go_simp; (try (simp only [↓IntWalk.iteOmega]; go_simp)); (try simp (disch := omega) only [IntWalk.i64_in]); try with_reducible rfl)); simp only [Act.put, List.setIfInBounds_toArray, List.set_cons_zero, List.set_cons_succ]) | (refine qs_run (v := ?_) (by rfl) ?_ ?_; rotate_left 1; (· (intro j w' hS; go_simp; (try (simp only [↓IntWalk.iteOmega]; go_simp)); (try simp (disch := omega) only [IntWalk.i64_in]); try with_reducible rfl)); simp only [Act.put, List.setIfInBounds_toArray, List.set_cons_zero, List.set_cons_succ]) | (refine qs_mid (v := ?_) (by rfl) ?_ ?_; rotate_left 1; (· (intro j w' hj1 hj2 hS; go_simp; (try (simp only [↓IntWalk.iteOmega]; go_simp)); (try simp (disch := omega) only [IntWalk.i64_in]); try with_reducible rfl)); simp only [Act.put, List.setIfInBounds_toArray, List.set_cons_zero, List.set_cons_succ]) | (refine qs_skip (by rfl) ?_; simp only [Act.put, List.setIfInBounds_toArray, List.set_cons_zero, List.set_cons_succ])))
        refine qs_nil ?_
        have bad : (hexV ca = none ∨ hexV cb = none) → unhexL s.data.toList = none := fun h => by
          have hn : s.data.toList ≠ [] := fun h => by have hsz := HSz.out; rw [h] at hsz; simp at hsz; omega
          unfold unhexL
          rw [if_neg hno, if_neg hn, HP.out, HD.out, pairsL]
          rcases h with h | h
          · rw [h]; rfl
          · rw [h]
            cases hexV ca <;> rfl
        have Bad := Lib.hid bad
        clear bad
        cases ha : hexV ca with
        | none =>
          have ea : digV ca = 16 := by unfold digV; rw [ha]
          have HU := Lib.hid (Bad.out (.inl ha))
          rw [ea]
          clear ha ea
          go_wp2
          go_ret2
          refine ⟨HB.out.drew, ?_⟩
          rw [HU.out]
          exact ⟨_, _, _, rfl⟩
        | some x =>
          have ea : digV ca = (x : Int) := by unfold digV; rw [ha]
          have hx := hexV_lt ha
          have hxI : ¬ (15 : Int) < (x : Int) := by omega
          rw [ea]
          clear ea
          cases hb : hexV cb with
          | none =>
            have eb : digV cb = 16 := by unfold digV; rw [hb]
            have HU := Lib.hid (Bad.out (.inr hb))
            rw [eb]
            clear ha hb eb
            go_wp2
            go_ret2
            refine ⟨HB.out.drew, ?_⟩
            rw [HU.out]
            exact ⟨_, _, _, rfl⟩
          | some y =>
            have eb : digV cb = (y : Int) := by unfold digV; rw [hb]
            have hy := hexV_lt hb
            have hyI : ¬ (15 : Int) < (y : Int) := by omega
            have HP2 := Lib.hid (show pairsL s.data.toList = (pairsL (s.data.toList.drop (j + 2))).map fun r => (o ++ [((16 * x + y : Nat) : Int)]) ++ r by
              rw [HP.out, HD.out, pairsL, ha, hb]
              simp only
              cases pairsL (s.data.toList.drop (j + 2)) <;> simp)
            rw [eb]
            clear ha hb eb
            have hz : 16 * x + y < 256 := by omega
            have EZ := Lib.hid (show 16 * (x : Int) + y = ((16 * x + y : Nat) : Int) by omega)
            have hzI : 16 * (x : Int) + y ≤ 255 := by omega
            obtain ⟨wd, hwd⟩ : ∃ wd, wd = wr.drew := ⟨_, rfl⟩
            have Ld := Lib.hid (show Below wr.heap.size wr wd by rw [hwd]; exact (Below.refl _ _).drew)
            rw [← hwd]
            clear hwd
            have Od := Lib.hid (own_lo8 HO.out Ld.out)
            have Bd := Lib.hid (below_chain HB.out Ld.out)
            have hol2 : o.length ≤ 100000000 := by have := HL.out; omega
            go_wp2_with (at_builtin; refine heldW ?_)
            unfold HeldW
            rw [EZ.out]
            generalize 16 * x + y = z at *
            refine app_src rfl (.tmp 32) (.tmp 37) 24 rfl w.heap.size 5 _ 1 1 Tryz.underlying24 infoByte rfl (by omega) _ o.length _ rfl (Od.out.alloc _) _ 1 [Value.int .u8 (z : Int)] rfl (src8 _ _ _) (by simp [Value.oneCell']) (by omega) (by omega) (by have := Bd.out.size; simp; omega) ?_
            intro v2 w2 ho2 hg2 hor2
            have O2 := Lib.hid ho2
            have G2 := Lib.hid hg2
            clear ho2 hg2 hor2
            go_wp2
            have L2 := Lib.hid ((Bd.out.alloc Bd.out.size _).grown G2.out (by have := Bd.out.size; simp; omega) (fun k hk => (Od.out.lt k hk).1))
            go_roundg (gk - 2)
            case measure => omega
            case rel =>
              refine ⟨j + 2, o ++ [(z : Int)], by go_num, by omega, by omega, by have := HL.out; simp; omega, ?_, L2.out, HP2.out⟩
              have h2 := O2.out
              rw [List.length_append, List.map_append]
              exact h2
      · have hltI : ¬ (j : Int) + 1 < (s.size : Int) := by omega
        obtain ⟨A3, c3, rfl, hc3⟩ := own_slice HO.out
        by_cases hemp : s.size = 0
        · have he : ¬ (0 : Int) < (s.size : Int) := by omega
          go_wp2
          go_ret2
          refine ⟨HB.out, ?_⟩
          have hn : s.data.toList = [] := List.eq_nil_of_length_eq_zero (by have := HSz.out; omega)
          unfold unhexL
          rw [if_neg hno, if_pos hn]
          exact ⟨_, _, _, rfl⟩
        · have he : (0 : Int) < (s.size : Int) := by omega
          have hn : s.data.toList ≠ [] := fun h => by have hsz := HSz.out; rw [h] at hsz; simp at hsz; omega
          by_cases hj : j = s.size
          · have hm : Int.tmod (s.size : Int) 2 = 0 := by have := HL.out; rw [Int.tmod_eq_emod_of_nonneg (by omega)]; omega
            have HU := Lib.hid (show unhexL s.data.toList = some o by
              unfold unhexL
              rw [if_neg hno, if_neg hn, HP.out, List.drop_eq_nil_of_le (by have := HSz.out; omega)]
              simp [pairsL])
            clear hj
            go_wp2
            go_ret2
            refine ⟨HB.out, ?_⟩
            rw [HU.out]
            exact ⟨_, _, rfl, HO.out⟩
          · have hm : Int.tmod (s.size : Int) 2 = 1 := by have := HL.out; rw [Int.tmod_eq_emod_of_nonneg (by omega)]; omega
            have HU := Lib.hid (show unhexL s.data.toList = none by
              unfold unhexL
              rw [if_neg hno, if_neg hn, HP.out, pairs_odd (by rw [List.length_drop]; have := HSz.out; omega)]
              rfl)
            clear hj
            go_wp2
            go_ret2
            refine ⟨HB.out, ?_⟩
            rw [HU.out]
            exact ⟨_, _, _, rfl⟩
end Go.Proofs.YtfehgpjnlkgekaaGreatDoor
