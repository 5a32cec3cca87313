/-
  LinesNumbers, walked. (its lines were printed by a program)
-/
import Derived.Test.YtfehgpjnlkgekaaGreatDoorLawLS
import Derived.Test.YtfehgpjnlkgekaaGreatDoorLawLT
import Derived.Test.YtfehgpjnlkgekaaGreatDoorLnNm
import Derived.Test.YtfehgpjnlkgekaaGreatDoorLnRep
namespace Go.Proofs.YtfehgpjnlkgekaaGreatDoor
open Go.RowKit
set_option linter.unusedVariables false
set_option linter.unusedSimpArgs false

def linesL : List ByteArray := [⟨#[114, 101, 97, 100, 32, 49, 32, 50]⟩, ⟨#[119, 114, 105, 116, 101, 32, 51, 32, 48, 48, 102, 102]⟩, ⟨#[119, 114, 105, 116, 101, 32, 48, 32, 110, 111, 110, 101]⟩, ⟨#[100, 105, 115, 99, 97, 114, 100, 32, 56, 32, 49, 54]⟩, ⟨#[102, 108, 117, 115, 104]⟩, ⟨#[115, 110, 97, 112, 115, 104, 111, 116]⟩, ⟨#[100, 101, 108, 101, 116, 101, 32, 49]⟩, ⟨#[114, 111, 108, 108, 98, 97, 99, 107, 32, 50]⟩, ⟨#[114, 101, 97, 100, 115, 110, 97, 112, 32, 49, 32, 48, 32, 56]⟩, ⟨#[99, 108, 101, 97, 110, 32, 45, 49]⟩, ⟨#[99, 114, 97, 115, 104]⟩, ⟨#[99, 114, 97, 115, 104, 32, 53, 32, 55, 32, 53]⟩, ⟨#[97, 114, 109, 32, 51]⟩, ⟨#[115, 116, 97, 116]⟩]
theorem linesL_all : (linesL.all fun x => decide (x.size ≤ 32) && (stepL x.data.toList).isSome) = true := by kernel_rfl
theorem linesL_ok {x : ByteArray} (h : x ∈ linesL) : x.size ≤ 32 ∧ ∃ y, stepL x.data.toList = some y := by
  have := List.all_eq_true.1 linesL_all x h
  simp only [Bool.and_eq_true, decide_eq_true_eq] at this
  exact ⟨this.1, Option.isSome_iff_exists.1 this.2⟩
theorem linesL_len : linesL.length = 14 := rfl
def SplitB (B : Nat) (w : World) (e : Ending) (w' : World) : Prop :=
  ∃ ws, e = .returned (.slice (some ⟨w.heap.size, 0, none⟩) ws.length ws.length) ∧ StrAt w' w.heap.size ws ∧ 0 < ws.length ∧ ws.length ≤ B + 1 ∧ (∀ x ∈ ws, x.size ≤ B) ∧ Below w.heap.size w w'
theorem split_le (B : Nat) (s sep : ByteArray) (w : World) (ht : LnT w) (hB : s.size ≤ B) (hs : B ≤ 1000000) (h1 : 1 ≤ sep.size) :
    Calls Tryz.prog 10 #[.string s, .string sep] w (SplitB B w) := by
  refine (split_any s sep w ht (by omega) h1).mono ?_
  rintro e w' ⟨ws, rfl, h2, h3, h4, h5, h6⟩
  exact ⟨ws, rfl, h2, h3, by omega, fun x hx => Nat.le_trans (h5 x hx) hB, h6⟩
theorem own_one {w : World} {g base : Nat} {t : TypeId} {v : Value} {xs : List Value} (hx : [v] = xs) (h : Blk w g t #[v]) (hb : base ≤ g) : w.ownsRow base t 1 (.slice (some ⟨g, 0, none⟩) 1 1) 1 xs := by
  subst hx
  exact ⟨rfl, .inr ⟨g, 1, _, rfl, hb, h, Nat.le_refl _, by unfold maxLen; omega, rfl, rfl⟩⟩
/-- A loop that goes on over memory that only grows. -/
def NmI (N : Nat) (w2 : World) (k : Nat) (iv : Value) (wr : World) : Prop := ∃ i : Nat, i + k = N ∧ iv = .int .i64 (i : Int) ∧ Below w2.heap.size w2 wr
theorem app_size {a b : ByteArray} {m n : Nat} (ha : a.size ≤ m) (hb : b.size ≤ n) : (a ++ b).size ≤ m + n := by
  rw [ByteArray.size_append]; omega
theorem StrAt.take {w : World} {g : Nat} {xs : List ByteArray} (h : StrAt w g xs) (k : Nat) : ∀ j x, (xs.take k)[j]? = some x → w.cell? ⟨g, 0 + j, none⟩ = some (.string x) := fun j x hx => by
  rw [Nat.zero_add]
  refine h j x ?_
  rcases Nat.lt_or_ge j k with h1 | h1
  · rwa [List.getElem?_take_of_lt h1] at hx
  · rw [List.getElem?_eq_none (by rw [List.length_take]; omega)] at hx; cases hx
theorem StrAt.drop {w : World} {g : Nat} {xs : List ByteArray} (h : StrAt w g xs) (k : Nat) : ∀ j x, (xs.drop k)[j]? = some x → w.cell? ⟨g, k + j, none⟩ = some (.string x) := fun j x hx => h (k + j) x (by rwa [List.getElem?_drop] at hx)
set_option maxRecDepth 100000 in
set_option maxHeartbeats 12800000 in
theorem numbers_any (w : World) (ht : LnT w) :
    Calls Tryz.prog 4 #[] w fun e w' => e = .returned (.bool true) ∧ Below w.heap.size w w' := by
  have HT := Lib.hid ht
  clear ht
  go_enter Tryz.func4, Tryz.ntmps4
  go_wp2_with fail
  obtain ⟨w1, hw1⟩ : ∃ w1, w1 = w.alloc (Obj.cells #[.string ⟨#[114, 101, 97, 100, 32, 49, 32, 50]⟩, .string ⟨#[119, 114, 105, 116, 101, 32, 51, 32, 48, 48, 102, 102]⟩, .string ⟨#[119, 114, 105, 116, 101, 32, 48, 32, 110, 111, 110, 101]⟩, .string ⟨#[100, 105, 115, 99, 97, 114, 100, 32, 56, 32, 49, 54]⟩, .string ⟨#[102, 108, 117, 115, 104]⟩, .string ⟨#[115, 110, 97, 112, 115, 104, 111, 116]⟩, .string ⟨#[100, 101, 108, 101, 116, 101, 32, 49]⟩, .string ⟨#[114, 111, 108, 108, 98, 97, 99, 107, 32, 50]⟩, .string ⟨#[114, 101, 97, 100, 115, 110, 97, 112, 32, 49, 32, 48, 32, 56]⟩, .string ⟨#[99, 108, 101, 97, 110, 32, 45, 49]⟩, .string ⟨#[99, 114, 97, 115, 104]⟩, .string ⟨#[99, 114, 97, 115, 104, 32, 53, 32, 55, 32, 53]⟩, .string ⟨#[97, 114, 109, 32, 51]⟩, .string ⟨#[115, 116, 97, 116]⟩] 9) := ⟨_, rfl⟩
  have S1 := Lib.hid (show StrAt w1 w.heap.size linesL by
    intro j x hx
    rw [hw1]
    refine (Blk.made w _ _).cell ?_
    show ((linesL.map Value.string).toArray)[j]? = _
    rw [List.getElem?_toArray, List.getElem?_map, hx]
    rfl)
  have L1 := Lib.hid (show Below w.heap.size w w1 by rw [hw1]; exact (Below.refl _ _).alloc (Nat.le_refl _) _)
  rw [← hw1]
  clear hw1
  refine (split_le 1000 _ _ w1 (HT.out.below L1.out) (of_decide_eq_true (by kernel_rfl)) (by omega) (by decide)).mono ?_
  rintro ev w2 ⟨od, rfl, hs2, ho0, ho1, hoz, hb2⟩
  have S2 := Lib.hid (S1.out.below hb2)
  have O2 := Lib.hid hs2
  have OZ := Lib.hid hoz
  have L2 := Lib.hid (below_chain L1.out hb2)
  clear hs2 hoz hb2 S1 L1
  obtain ⟨g1, hg1⟩ : ∃ g1, g1 = w.heap.size := ⟨_, rfl⟩
  rw [← hg1] at S2 ⊢
  have HG1 := Lib.hid hg1
  clear hg1
  generalize w1.heap.size = g2 at *
  -- L1(
  go_wp2_with fail
  go_loopg [3] 14 (NmI 14 w2)
  case atStart => exact ⟨0, by omega, rfl, Below.refl _ _⟩
  case round =>
    obtain ⟨i, hi, rfl, hbr⟩ := hrel
    have BR := Lib.hid hbr
    clear hbr
    by_cases hi14 : i < 14
    · -- A(
      have hiI : (i : Int) < 14 := by omega
      obtain ⟨x, hx⟩ : ∃ x, linesL[i]? = some x := ⟨_, List.getElem?_eq_getElem (by rw [linesL_len]; exact hi14)⟩
      obtain ⟨hx32, y, hy⟩ := linesL_ok (List.mem_of_getElem? hx)
      have HX := Lib.hid hx
      have HY := Lib.hid hy
      have c1 := (S2.out.below BR.out) i x hx
      obtain ⟨go, hgo⟩ : ∃ go, go = gk := ⟨_, rfl⟩
      rw [← hgo] at hi
      clear hx hy
      go_wp2_with fail
      refine (step_any x wr (HT.out.below (below_chain L2.out BR.out)) (by omega)).mono ?_
      rintro ev w3 ⟨hb3, he⟩
      rw [HY.out] at he
      simp only at he
      obtain ⟨A, c, A', c', rfl, _, _⟩ := he
      have B3 := Lib.hid (below_chain BR.out hb3)
      have c1 := cell_al ((S2.out.below B3.out) i x HX.out)
      unfold stepVs
      clear hb3
      go_wp2_with fail
      obtain ⟨w4, hw4⟩ : ∃ w4, w4 = w3.alloc (Obj.cells #[.int .u8 y.kind, .int .i64 y.pos, .int .i64 y.n, .int .i64 y.snap, .slice A y.bytes.length c, .slice A' y.fates.length c'] 27) := ⟨_, rfl⟩
      have B4 := Lib.hid (show Below w2.heap.size w2 w4 by rw [hw4]; exact B3.out.alloc B3.out.size _)
      rw [← hw4]
      clear hw4 c1 B3
      refine (steps_any _ w4 (Nat.le_trans (app_size (m := 32) (n := 1) hx32 (by decide)) (by decide)) (HT.out.below (below_chain L2.out B4.out))).mono ?_
      rintro ev w5 ⟨rfl, hb⟩
      have B5 := Lib.hid (below_chain B4.out hb)
      clear hb
      have c1 := (S2.out.below B5.out) i x HX.out
      go_wp2_with fail
      refine (steps_any _ w5 (Nat.le_trans (app_size (m := 1) (n := 32) (by decide) hx32) (by decide)) (HT.out.below (below_chain L2.out B5.out))).mono ?_
      rintro ev w6 ⟨rfl, hb⟩
      have B6 := Lib.hid (below_chain B5.out hb)
      clear hb
      have c1 := (S2.out.below B6.out) i x HX.out
      go_wp2_with fail
      refine (steps_any _ w6 (Nat.le_trans (app_size (m := 32) (n := 1) hx32 (by decide)) (by decide)) (HT.out.below (below_chain L2.out B6.out))).mono ?_
      rintro ev w7 ⟨rfl, hb⟩
      have B7 := Lib.hid (below_chain B6.out hb)
      clear hb
      have c1 := (S2.out.below B7.out) i x HX.out
      go_wp2_with fail
      refine (split_le 32 x _ w7 (HT.out.below (below_chain L2.out B7.out)) hx32 (by omega) (by decide)).mono ?_
      rintro ev w8 ⟨ws, rfl, hs8, hw0, hw1, hwz, hb8⟩
      have W8 := Lib.hid hs8
      have WZ := Lib.hid hwz
      have B8 := Lib.hid (below_chain B7.out hb8)
      generalize w7.heap.size = g3 at *
      clear hs8 hwz hb8 c1 B4 B5 B6 B7
      go_wp2
      go_loopg [7] ws.length (NmI ws.length w8)
      case atStart => exact ⟨0, by omega, rfl, Below.refl _ _⟩
      case round =>
        obtain ⟨k, hk, rfl, hbr⟩ := hrel
        have CR := Lib.hid hbr
        clear hbr
        by_cases hkn : k < ws.length
        · have hkI : (k : Int) < (ws.length : Int) := by omega
          have B9 := Lib.hid (below_chain B8.out CR.out)
          obtain ⟨gm, hgm⟩ : ∃ gm, gm = gk := ⟨_, rfl⟩
          rw [← hgm] at hk
          go_wp2_with fail
          refine wp_region_qs (fun _ _ => True) [(0, some 5), (1, some 5), (2, some 4), (3, none), (4, none), (5, some 5), (6, some 2), (7, some 5), (8, some 5), (9, some 4), (12, some 5), (13, some 5), (14, some 4), (10, none), (11, some 5), (15, none), (16, some 4), (17, none), (18, some 5), (19, some 5)] (by kernel_rfl) (by kernel_rfl) (by kernel_rfl) (by kernel_rfl) (by kernel_rfl) (fun _ _ _ _ _ h => h) trivial ?_
          simp only [List.map_cons, List.map_nil, List.getD_cons_succ, List.getD_cons_zero]
          (repeat (first | (refine qs_now (v := ?_) (by rfl) ?_ ?_; rotate_left 1; (· (intro w' hS; go_simp; (try (simp only [↓IntWalk.iteOmega]; go_simp)); (try simp (disch := omega) only [IntWalk.i64_in]); try with_reducible rfl)); simp only [Act.put, List.setIfInBounds_toArray, List.set_cons_zero, List.set_cons_succ]) | (refine qs_run (v := ?_) (by rfl) ?_ ?_; rotate_left 1; (· (intro j w' hS; go_simp; (try (simp only [↓IntWalk.iteOmega]; go_simp)); (try simp (disch := omega) only [IntWalk.i64_in]); try with_reducible rfl)); simp only [Act.put, List.setIfInBounds_toArray, List.set_cons_zero, List.set_cons_succ]) | (refine qs_mid (v := ?_) (by rfl) ?_ ?_; rotate_left 1; (· (intro j w' hj1 hj2 hS; go_simp; (try (simp only [↓IntWalk.iteOmega]; go_simp)); (try simp (disch := omega) only [IntWalk.i64_in]); try with_reducible rfl)); simp only [Act.put, List.setIfInBounds_toArray, List.set_cons_zero, List.set_cons_succ]) | (refine qs_skip (by rfl) ?_; simp only [Act.put, List.setIfInBounds_toArray, List.set_cons_zero, List.set_cons_succ])))
          refine qs_act ?_
          go_wp2_with fail
          refine (join_any g3 0 k ws.length (ws.take k) _ 32 ((W8.out.below CR.out.drew).take k) (by have h1 := W8.out.lt hw0; have h2 := (CR.out.drew).size; omega) (by simp; try omega) (by omega) (by omega) (fun z hz => WZ.out z (by first | exact List.mem_of_mem_take hz | exact List.mem_of_mem_drop hz)) (by omega)).mono ?_
          rintro ev w9 ⟨s1, rfl, hs1, hb9⟩
          have C9 := Lib.hid (below_chain CR.out.drew hb9)
          clear hb9
          go_wp2
          refine ⟨trivial, ?_⟩
          (repeat (first | (refine qs_now (v := ?_) (by rfl) ?_ ?_; rotate_left 1; (· (intro w' hS; go_simp; (try (simp only [↓IntWalk.iteOmega]; go_simp)); (try simp (disch := omega) only [IntWalk.i64_in]); try with_reducible rfl)); simp only [Act.put, List.setIfInBounds_toArray, List.set_cons_zero, List.set_cons_succ]) | (refine qs_run (v := ?_) (by rfl) ?_ ?_; rotate_left 1; (· (intro j w' hS; go_simp; (try (simp only [↓IntWalk.iteOmega]; go_simp)); (try simp (disch := omega) only [IntWalk.i64_in]); try with_reducible rfl)); simp only [Act.put, List.setIfInBounds_toArray, List.set_cons_zero, List.set_cons_succ]) | (refine qs_mid (v := ?_) (by rfl) ?_ ?_; rotate_left 1; (· (intro j w' hj1 hj2 hS; go_simp; (try (simp only [↓IntWalk.iteOmega]; go_simp)); (try simp (disch := omega) only [IntWalk.i64_in]); try with_reducible rfl)); simp only [Act.put, List.setIfInBounds_toArray, List.set_cons_zero, List.set_cons_succ]) | (refine qs_skip (by rfl) ?_; simp only [Act.put, List.setIfInBounds_toArray, List.set_cons_zero, List.set_cons_succ])))
          refine qs_act ?_
          go_wp2_with fail
          refine (steps_any s1 w9 (by omega) (HT.out.below (below_chain L2.out (below_chain B8.out C9.out)))).mono ?_
          rintro ev w10 ⟨rfl, hb⟩
          have C10 := Lib.hid (below_chain C9.out hb)
          clear hb C9
          go_wp2
          refine ⟨trivial, ?_⟩
          (repeat (first | (refine qs_now (v := ?_) (by rfl) ?_ ?_; rotate_left 1; (· (intro w' hS; go_simp; (try (simp only [↓IntWalk.iteOmega]; go_simp)); (try simp (disch := omega) only [IntWalk.i64_in]); try with_reducible rfl)); simp only [Act.put, List.setIfInBounds_toArray, List.set_cons_zero, List.set_cons_succ]) | (refine qs_run (v := ?_) (by rfl) ?_ ?_; rotate_left 1; (· (intro j w' hS; go_simp; (try (simp only [↓IntWalk.iteOmega]; go_simp)); (try simp (disch := omega) only [IntWalk.i64_in]); try with_reducible rfl)); simp only [Act.put, List.setIfInBounds_toArray, List.set_cons_zero, List.set_cons_succ]) | (refine qs_mid (v := ?_) (by rfl) ?_ ?_; rotate_left 1; (· (intro j w' hj1 hj2 hS; go_simp; (try (simp only [↓IntWalk.iteOmega]; go_simp)); (try simp (disch := omega) only [IntWalk.i64_in]); try with_reducible rfl)); simp only [Act.put, List.setIfInBounds_toArray, List.set_cons_zero, List.set_cons_succ]) | (refine qs_skip (by rfl) ?_; simp only [Act.put, List.setIfInBounds_toArray, List.set_cons_zero, List.set_cons_succ])))
          refine qs_act ?_
          go_wp2_with fail
          refine (join_any g3 0 k ws.length (ws.take k) _ 32 ((W8.out.below C10.out).take k) (by have h1 := W8.out.lt hw0; have h2 := (C10.out).size; omega) (by simp; try omega) (by omega) (by omega) (fun z hz => WZ.out z (by first | exact List.mem_of_mem_take hz | exact List.mem_of_mem_drop hz)) (by omega)).mono ?_
          rintro ev w11 ⟨s2, rfl, hs2, hb⟩
          have C11 := Lib.hid (below_chain C10.out hb)
          clear hb C10
          go_wp2
          refine ⟨trivial, ?_⟩
          (repeat (first | (refine qs_now (v := ?_) (by rfl) ?_ ?_; rotate_left 1; (· (intro w' hS; go_simp; (try (simp only [↓IntWalk.iteOmega]; go_simp)); (try simp (disch := omega) only [IntWalk.i64_in]); try with_reducible rfl)); simp only [Act.put, List.setIfInBounds_toArray, List.set_cons_zero, List.set_cons_succ]) | (refine qs_run (v := ?_) (by rfl) ?_ ?_; rotate_left 1; (· (intro j w' hS; go_simp; (try (simp only [↓IntWalk.iteOmega]; go_simp)); (try simp (disch := omega) only [IntWalk.i64_in]); try with_reducible rfl)); simp only [Act.put, List.setIfInBounds_toArray, List.set_cons_zero, List.set_cons_succ]) | (refine qs_mid (v := ?_) (by rfl) ?_ ?_; rotate_left 1; (· (intro j w' hj1 hj2 hS; go_simp; (try (simp only [↓IntWalk.iteOmega]; go_simp)); (try simp (disch := omega) only [IntWalk.i64_in]); try with_reducible rfl)); simp only [Act.put, List.setIfInBounds_toArray, List.set_cons_zero, List.set_cons_succ]) | (refine qs_skip (by rfl) ?_; simp only [Act.put, List.setIfInBounds_toArray, List.set_cons_zero, List.set_cons_succ])))
          refine qs_act ?_
          go_wp2_with fail
          refine (join_any g3 k (ws.length - k) (ws.length - k) (ws.drop k) _ 32 ((W8.out.below C11.out).drop k) (by have h1 := W8.out.lt hw0; have h2 := (C11.out).size; omega) (by simp; try omega) (by omega) (by omega) (fun z hz => WZ.out z (by first | exact List.mem_of_mem_take hz | exact List.mem_of_mem_drop hz)) (by omega)).mono ?_
          rintro ev w12 ⟨s3, rfl, hs3, hb⟩
          have C12 := Lib.hid (below_chain C11.out hb)
          clear hb C11
          go_wp2
          refine ⟨trivial, ?_⟩
          (repeat (first | (refine qs_now (v := ?_) (by rfl) ?_ ?_; rotate_left 1; (· (intro w' hS; go_simp; (try (simp only [↓IntWalk.iteOmega]; go_simp)); (try simp (disch := omega) only [IntWalk.i64_in]); try with_reducible rfl)); simp only [Act.put, List.setIfInBounds_toArray, List.set_cons_zero, List.set_cons_succ]) | (refine qs_run (v := ?_) (by rfl) ?_ ?_; rotate_left 1; (· (intro j w' hS; go_simp; (try (simp only [↓IntWalk.iteOmega]; go_simp)); (try simp (disch := omega) only [IntWalk.i64_in]); try with_reducible rfl)); simp only [Act.put, List.setIfInBounds_toArray, List.set_cons_zero, List.set_cons_succ]) | (refine qs_mid (v := ?_) (by rfl) ?_ ?_; rotate_left 1; (· (intro j w' hj1 hj2 hS; go_simp; (try (simp only [↓IntWalk.iteOmega]; go_simp)); (try simp (disch := omega) only [IntWalk.i64_in]); try with_reducible rfl)); simp only [Act.put, List.setIfInBounds_toArray, List.set_cons_zero, List.set_cons_succ]) | (refine qs_skip (by rfl) ?_; simp only [Act.put, List.setIfInBounds_toArray, List.set_cons_zero, List.set_cons_succ])))
          refine qs_act ?_
          go_wp2_with fail
          refine (steps_any _ w12 (Nat.le_trans (app_size (app_size (n := 2) hs2 (by decide)) hs3) (by decide)) (HT.out.below (below_chain L2.out (below_chain B8.out C12.out)))).mono ?_
          rintro ev w13 ⟨rfl, hb⟩
          have C13 := Lib.hid (below_chain C12.out hb)
          clear hb C12
          go_wp2
          refine ⟨trivial, ?_⟩
          (repeat (first | (refine qs_now (v := ?_) (by rfl) ?_ ?_; rotate_left 1; (· (intro w' hS; go_simp; (try (simp only [↓IntWalk.iteOmega]; go_simp)); (try simp (disch := omega) only [IntWalk.i64_in]); try with_reducible rfl)); simp only [Act.put, List.setIfInBounds_toArray, List.set_cons_zero, List.set_cons_succ]) | (refine qs_run (v := ?_) (by rfl) ?_ ?_; rotate_left 1; (· (intro j w' hS; go_simp; (try (simp only [↓IntWalk.iteOmega]; go_simp)); (try simp (disch := omega) only [IntWalk.i64_in]); try with_reducible rfl)); simp only [Act.put, List.setIfInBounds_toArray, List.set_cons_zero, List.set_cons_succ]) | (refine qs_mid (v := ?_) (by rfl) ?_ ?_; rotate_left 1; (· (intro j w' hj1 hj2 hS; go_simp; (try (simp only [↓IntWalk.iteOmega]; go_simp)); (try simp (disch := omega) only [IntWalk.i64_in]); try with_reducible rfl)); simp only [Act.put, List.setIfInBounds_toArray, List.set_cons_zero, List.set_cons_succ]) | (refine qs_skip (by rfl) ?_; simp only [Act.put, List.setIfInBounds_toArray, List.set_cons_zero, List.set_cons_succ])))
          refine qs_nil ?_
          go_wp2_with fail
          go_loopg [8] od.length (NmI od.length w8)
          case atStart => exact ⟨0, by omega, rfl, C13.out⟩
          case round =>
            obtain ⟨j, hj, rfl, hbr⟩ := hrel
            have D := Lib.hid hbr
            clear hbr
            by_cases hjn : j < od.length
            · have hjI : (j : Int) < (od.length : Int) := by omega
              obtain ⟨q, hq⟩ : ∃ q, od[j]? = some q := ⟨_, List.getElem?_eq_getElem hjn⟩
              have hqz := OZ.out q (List.mem_of_getElem? hq)
              have HQ := Lib.hid hq
              clear hq
              go_wp2_with fail
              refine (copyTexts_any g3 ws.length ws.length ws wr (W8.out.below D.out) rfl hw0 (by omega)).mono ?_
              rintro ev w14 ⟨g4, c4, rfl, ho, hb⟩
              have D14 := Lib.hid (below_chain D.out hb)
              have c2 := (O2.out.below (below_chain B8.out D14.out)) j q HQ.out
              have q4 := ho.cellAt k (by omega)
              rw [List.getElem?_map, List.getElem?_eq_getElem hkn] at q4
              simp only [Option.map_some] at q4
              have z4 := ho.frozenAt k
              have hg4 : w8.heap.size ≤ g4 := by have := (ho.lt g4 rfl).1; have := D.out.size; omega
              have hc4 : ws.length ≤ c4 := by
                rcases ho.2 with ⟨h0, _⟩ | ⟨g', cap, cur, hv, _, _, hnc, _⟩
                · cases h0
                · injection hv with _ _ h3
                  omega
              have HO := Lib.hid ho
              clear ho hb
              go_wp2_with fail
              obtain ⟨w15, hw15⟩ : ∃ w15, w15 = w14.setCell ⟨g4, k, none⟩ (.string q) := ⟨_, rfl⟩
              have V15 := Lib.hid (show StrAt w15 g4 (ws.set k q) by
                intro jj z hz
                have h1 := (HO.out.stored k (.string q)).1
                rw [← hw15, ← List.map_set] at h1
                have hl : jj < ws.length := by
                  rcases Nat.lt_or_ge jj ws.length with h2 | h2
                  · exact h2
                  · rw [List.getElem?_eq_none (by rw [List.length_set]; exact h2)] at hz; cases hz
                rw [h1.cellAt jj (by omega), List.getElem?_map, hz]
                rfl)
              have D15 := Lib.hid (show Below w8.heap.size w8 w15 by rw [hw15]; exact bel_put D14.out hg4 _ _)
              rw [← hw15]
              clear hw15 q4 z4 HO D14 c2
              have c1 := (S2.out.below (below_chain B8.out D15.out)) i x HX.out
              have c2 := (O2.out.below (below_chain B8.out D15.out)) j q HQ.out
              by_cases hkl : k + 1 = ws.length
              · have dk : ((k : Int) + 1 == (ws.length : Int)) = true := by simp; omega
                refine wp_region_qs (fun _ w' => w'.cell? ⟨g1, i, none⟩ = some (.string x) ∧ w'.cell? ⟨g2, j, none⟩ = some (.string q)) [(0, some 2), (1, none), (2, none), (3, some 3), (4, some 3), (5, some 3), (6, some 3), (7, some 3), (8, some 3), (9, some 3), (10, some 2), (11, some 3), (12, some 3), (13, some 3), (14, some 3), (15, some 3), (16, some 3), (17, some 3), (18, some 3), (19, some 3), (20, some 2), (21, none), (22, some 3), (23, some 3), (24, some 3)] (by kernel_rfl) (by kernel_rfl) (by kernel_rfl) (by kernel_rfl) (by kernel_rfl) (fun _ _ _ _ _ h => h) ⟨c1, c2⟩ ?_
                simp only [List.map_cons, List.map_nil, List.getD_cons_succ, List.getD_cons_zero]
                (repeat (first | (refine qs_now (v := ?_) (by rfl) ?_ ?_; rotate_left 1; (· (intro w' hS; go_simp; (try (simp only [↓IntWalk.iteOmega]; go_simp)); (try simp (disch := omega) only [IntWalk.i64_in]); try with_reducible rfl)); simp only [Act.put, List.setIfInBounds_toArray, List.set_cons_zero, List.set_cons_succ]) | (refine qs_run (v := ?_) (by rfl) ?_ ?_; rotate_left 1; (· (intro j w' hS; go_simp; (try (simp only [↓IntWalk.iteOmega]; go_simp)); (try simp (disch := omega) only [IntWalk.i64_in]); try with_reducible rfl)); simp only [Act.put, List.setIfInBounds_toArray, List.set_cons_zero, List.set_cons_succ]) | (refine qs_mid (v := ?_) (by rfl) ?_ ?_; rotate_left 1; (· (intro j w' hj1 hj2 hS; go_simp; (try (simp only [↓IntWalk.iteOmega]; go_simp)); (try simp (disch := omega) only [IntWalk.i64_in]); try with_reducible rfl)); simp only [Act.put, List.setIfInBounds_toArray, List.set_cons_zero, List.set_cons_succ]) | (refine qs_skip (by rfl) ?_; simp only [Act.put, List.setIfInBounds_toArray, List.set_cons_zero, List.set_cons_succ])))
                refine qs_act ?_
                go_wp2_with fail
                refine (join_any g4 0 ws.length c4 (ws.set k q) w15.drew 1000 (fun jj z hz => by
                  rw [Nat.zero_add]
                  exact (V15.out.below (Below.refl _ _).drew) jj z hz) ((V15.out.below (Below.refl _ _).drew).lt (by rw [List.length_set]; exact hw0)) (by rw [List.length_set]) (by omega) hc4 (fun z hz => by
                  rcases List.mem_or_eq_of_mem_set hz with h | h
                  · have := WZ.out z h; omega
                  · rw [h]; exact hqz) (by omega)).mono ?_
                rintro ev w16 ⟨s4, rfl, hs4, hb⟩
                have E16 := below_chain (Below.refl _ _).drew hb
                have c1 := cell_low c1 E16
                have c2 := cell_low c2 E16
                have D16 := Lib.hid (below_chain D15.out E16)
                clear hb E16
                go_wp2
                refine ⟨⟨c1, c2⟩, ?_⟩
                (repeat (first | (refine qs_now (v := ?_) (by rfl) ?_ ?_; rotate_left 1; (· (intro w' hS; go_simp; (try (simp only [↓IntWalk.iteOmega]; go_simp)); (try simp (disch := omega) only [IntWalk.i64_in]); try with_reducible rfl)); simp only [Act.put, List.setIfInBounds_toArray, List.set_cons_zero, List.set_cons_succ]) | (refine qs_run (v := ?_) (by rfl) ?_ ?_; rotate_left 1; (· (intro j w' hS; go_simp; (try (simp only [↓IntWalk.iteOmega]; go_simp)); (try simp (disch := omega) only [IntWalk.i64_in]); try with_reducible rfl)); simp only [Act.put, List.setIfInBounds_toArray, List.set_cons_zero, List.set_cons_succ]) | (refine qs_mid (v := ?_) (by rfl) ?_ ?_; rotate_left 1; (· (intro j w' hj1 hj2 hS; go_simp; (try (simp only [↓IntWalk.iteOmega]; go_simp)); (try simp (disch := omega) only [IntWalk.i64_in]); try with_reducible rfl)); simp only [Act.put, List.setIfInBounds_toArray, List.set_cons_zero, List.set_cons_succ]) | (refine qs_skip (by rfl) ?_; simp only [Act.put, List.setIfInBounds_toArray, List.set_cons_zero, List.set_cons_succ])))
                refine qs_act ?_
                go_wp2_with fail
                refine (steps_any s4 w16 (by omega) (HT.out.below (below_chain L2.out (below_chain B8.out D16.out)))).mono ?_
                rintro ev w17 ⟨rfl, hb⟩
                have c1 := cell_low c1 hb
                have c2 := cell_low c2 hb
                have D17 := Lib.hid (below_chain D16.out hb)
                clear hb D16
                go_wp2
                refine ⟨⟨c1, c2⟩, ?_⟩
                (repeat (first | (refine qs_now (v := ?_) (by rfl) ?_ ?_; rotate_left 1; (· (intro w' hS; go_simp; (try (simp only [↓IntWalk.iteOmega]; go_simp)); (try simp (disch := omega) only [IntWalk.i64_in]); try with_reducible rfl)); simp only [Act.put, List.setIfInBounds_toArray, List.set_cons_zero, List.set_cons_succ]) | (refine qs_run (v := ?_) (by rfl) ?_ ?_; rotate_left 1; (· (intro j w' hS; go_simp; (try (simp only [↓IntWalk.iteOmega]; go_simp)); (try simp (disch := omega) only [IntWalk.i64_in]); try with_reducible rfl)); simp only [Act.put, List.setIfInBounds_toArray, List.set_cons_zero, List.set_cons_succ]) | (refine qs_mid (v := ?_) (by rfl) ?_ ?_; rotate_left 1; (· (intro j w' hj1 hj2 hS; go_simp; (try (simp only [↓IntWalk.iteOmega]; go_simp)); (try simp (disch := omega) only [IntWalk.i64_in]); try with_reducible rfl)); simp only [Act.put, List.setIfInBounds_toArray, List.set_cons_zero, List.set_cons_succ]) | (refine qs_skip (by rfl) ?_; simp only [Act.put, List.setIfInBounds_toArray, List.set_cons_zero, List.set_cons_succ])))
                refine qs_act ?_
                go_wp2_with fail
                refine (steps_any _ w17 (Nat.le_trans (app_size (app_size (n := 1) hx32 (by decide)) hqz) (by decide)) (HT.out.below (below_chain L2.out (below_chain B8.out D17.out)))).mono ?_
                rintro ev w18 ⟨rfl, hb⟩
                have c1 := cell_low c1 hb
                have c2 := cell_low c2 hb
                have D18 := Lib.hid (below_chain D17.out hb)
                clear hb D17
                go_wp2
                refine ⟨⟨c1, c2⟩, ?_⟩
                (repeat (first | (refine qs_now (v := ?_) (by rfl) ?_ ?_; rotate_left 1; (· (intro w' hS; go_simp; (try (simp only [↓IntWalk.iteOmega]; go_simp)); (try simp (disch := omega) only [IntWalk.i64_in]); try with_reducible rfl)); simp only [Act.put, List.setIfInBounds_toArray, List.set_cons_zero, List.set_cons_succ]) | (refine qs_run (v := ?_) (by rfl) ?_ ?_; rotate_left 1; (· (intro j w' hS; go_simp; (try (simp only [↓IntWalk.iteOmega]; go_simp)); (try simp (disch := omega) only [IntWalk.i64_in]); try with_reducible rfl)); simp only [Act.put, List.setIfInBounds_toArray, List.set_cons_zero, List.set_cons_succ]) | (refine qs_mid (v := ?_) (by rfl) ?_ ?_; rotate_left 1; (· (intro j w' hj1 hj2 hS; go_simp; (try (simp only [↓IntWalk.iteOmega]; go_simp)); (try simp (disch := omega) only [IntWalk.i64_in]); try with_reducible rfl)); simp only [Act.put, List.setIfInBounds_toArray, List.set_cons_zero, List.set_cons_succ]) | (refine qs_skip (by rfl) ?_; simp only [Act.put, List.setIfInBounds_toArray, List.set_cons_zero, List.set_cons_succ])))
                refine qs_nil ?_
                go_wp2
                go_roundg (gk - 1)
                case measure => omega
                case rel => exact ⟨j + 1, by omega, by go_num, D18.out⟩
              · have dk : ((k : Int) + 1 == (ws.length : Int)) = false := by simp; omega
                refine wp_region_qs (fun _ w' => w'.cell? ⟨g1, i, none⟩ = some (.string x) ∧ w'.cell? ⟨g2, j, none⟩ = some (.string q)) [(0, some 2), (1, none), (2, none), (3, some 3), (4, some 3), (5, some 3), (6, some 3), (7, some 3), (8, some 3), (9, some 3), (10, some 2), (11, some 3), (12, some 3), (13, some 3), (14, some 3), (15, some 3), (16, some 3), (17, some 3), (18, some 3), (19, some 3), (20, some 2), (21, none), (22, some 3), (23, some 3), (24, some 3)] (by kernel_rfl) (by kernel_rfl) (by kernel_rfl) (by kernel_rfl) (by kernel_rfl) (fun _ _ _ _ _ h => h) ⟨c1, c2⟩ ?_
                simp only [List.map_cons, List.map_nil, List.getD_cons_succ, List.getD_cons_zero]
                (repeat (first | (refine qs_now (v := ?_) (by rfl) ?_ ?_; rotate_left 1; (· (intro w' hS; go_simp; (try (simp only [↓IntWalk.iteOmega]; go_simp)); (try simp (disch := omega) only [IntWalk.i64_in]); try with_reducible rfl)); simp only [Act.put, List.setIfInBounds_toArray, List.set_cons_zero, List.set_cons_succ]) | (refine qs_run (v := ?_) (by rfl) ?_ ?_; rotate_left 1; (· (intro j w' hS; go_simp; (try (simp only [↓IntWalk.iteOmega]; go_simp)); (try simp (disch := omega) only [IntWalk.i64_in]); try with_reducible rfl)); simp only [Act.put, List.setIfInBounds_toArray, List.set_cons_zero, List.set_cons_succ]) | (refine qs_mid (v := ?_) (by rfl) ?_ ?_; rotate_left 1; (· (intro j w' hj1 hj2 hS; go_simp; (try (simp only [↓IntWalk.iteOmega]; go_simp)); (try simp (disch := omega) only [IntWalk.i64_in]); try with_reducible rfl)); simp only [Act.put, List.setIfInBounds_toArray, List.set_cons_zero, List.set_cons_succ]) | (refine qs_skip (by rfl) ?_; simp only [Act.put, List.setIfInBounds_toArray, List.set_cons_zero, List.set_cons_succ])))
                refine qs_act ?_
                go_wp2_with fail
                refine (join_any g4 0 ws.length c4 (ws.set k q) w15.drew 1000 (fun jj z hz => by
                  rw [Nat.zero_add]
                  exact (V15.out.below (Below.refl _ _).drew) jj z hz) ((V15.out.below (Below.refl _ _).drew).lt (by rw [List.length_set]; exact hw0)) (by rw [List.length_set]) (by omega) hc4 (fun z hz => by
                  rcases List.mem_or_eq_of_mem_set hz with h | h
                  · have := WZ.out z h; omega
                  · rw [h]; exact hqz) (by omega)).mono ?_
                rintro ev w16 ⟨s4, rfl, hs4, hb⟩
                have E16 := below_chain (Below.refl _ _).drew hb
                have c1 := cell_low c1 E16
                have c2 := cell_low c2 E16
                have D16 := Lib.hid (below_chain D15.out E16)
                clear hb E16
                go_wp2
                refine ⟨⟨c1, c2⟩, ?_⟩
                (repeat (first | (refine qs_now (v := ?_) (by rfl) ?_ ?_; rotate_left 1; (· (intro w' hS; go_simp; (try (simp only [↓IntWalk.iteOmega]; go_simp)); (try simp (disch := omega) only [IntWalk.i64_in]); try with_reducible rfl)); simp only [Act.put, List.setIfInBounds_toArray, List.set_cons_zero, List.set_cons_succ]) | (refine qs_run (v := ?_) (by rfl) ?_ ?_; rotate_left 1; (· (intro j w' hS; go_simp; (try (simp only [↓IntWalk.iteOmega]; go_simp)); (try simp (disch := omega) only [IntWalk.i64_in]); try with_reducible rfl)); simp only [Act.put, List.setIfInBounds_toArray, List.set_cons_zero, List.set_cons_succ]) | (refine qs_mid (v := ?_) (by rfl) ?_ ?_; rotate_left 1; (· (intro j w' hj1 hj2 hS; go_simp; (try (simp only [↓IntWalk.iteOmega]; go_simp)); (try simp (disch := omega) only [IntWalk.i64_in]); try with_reducible rfl)); simp only [Act.put, List.setIfInBounds_toArray, List.set_cons_zero, List.set_cons_succ]) | (refine qs_skip (by rfl) ?_; simp only [Act.put, List.setIfInBounds_toArray, List.set_cons_zero, List.set_cons_succ])))
                refine qs_act ?_
                go_wp2_with fail
                refine (steps_any s4 w16 (by omega) (HT.out.below (below_chain L2.out (below_chain B8.out D16.out)))).mono ?_
                rintro ev w17 ⟨rfl, hb⟩
                have c1 := cell_low c1 hb
                have c2 := cell_low c2 hb
                have D17 := Lib.hid (below_chain D16.out hb)
                clear hb D16
                go_wp2
                refine ⟨⟨c1, c2⟩, ?_⟩
                (repeat (first | (refine qs_now (v := ?_) (by rfl) ?_ ?_; rotate_left 1; (· (intro w' hS; go_simp; (try (simp only [↓IntWalk.iteOmega]; go_simp)); (try simp (disch := omega) only [IntWalk.i64_in]); try with_reducible rfl)); simp only [Act.put, List.setIfInBounds_toArray, List.set_cons_zero, List.set_cons_succ]) | (refine qs_run (v := ?_) (by rfl) ?_ ?_; rotate_left 1; (· (intro j w' hS; go_simp; (try (simp only [↓IntWalk.iteOmega]; go_simp)); (try simp (disch := omega) only [IntWalk.i64_in]); try with_reducible rfl)); simp only [Act.put, List.setIfInBounds_toArray, List.set_cons_zero, List.set_cons_succ]) | (refine qs_mid (v := ?_) (by rfl) ?_ ?_; rotate_left 1; (· (intro j w' hj1 hj2 hS; go_simp; (try (simp only [↓IntWalk.iteOmega]; go_simp)); (try simp (disch := omega) only [IntWalk.i64_in]); try with_reducible rfl)); simp only [Act.put, List.setIfInBounds_toArray, List.set_cons_zero, List.set_cons_succ]) | (refine qs_skip (by rfl) ?_; simp only [Act.put, List.setIfInBounds_toArray, List.set_cons_zero, List.set_cons_succ])))
                refine qs_act ?_
                go_wp2
                refine ⟨⟨c1, c2⟩, ?_⟩
                (repeat (first | (refine qs_now (v := ?_) (by rfl) ?_ ?_; rotate_left 1; (· (intro w' hS; go_simp; (try (simp only [↓IntWalk.iteOmega]; go_simp)); (try simp (disch := omega) only [IntWalk.i64_in]); try with_reducible rfl)); simp only [Act.put, List.setIfInBounds_toArray, List.set_cons_zero, List.set_cons_succ]) | (refine qs_run (v := ?_) (by rfl) ?_ ?_; rotate_left 1; (· (intro j w' hS; go_simp; (try (simp only [↓IntWalk.iteOmega]; go_simp)); (try simp (disch := omega) only [IntWalk.i64_in]); try with_reducible rfl)); simp only [Act.put, List.setIfInBounds_toArray, List.set_cons_zero, List.set_cons_succ]) | (refine qs_mid (v := ?_) (by rfl) ?_ ?_; rotate_left 1; (· (intro j w' hj1 hj2 hS; go_simp; (try (simp only [↓IntWalk.iteOmega]; go_simp)); (try simp (disch := omega) only [IntWalk.i64_in]); try with_reducible rfl)); simp only [Act.put, List.setIfInBounds_toArray, List.set_cons_zero, List.set_cons_succ]) | (refine qs_skip (by rfl) ?_; simp only [Act.put, List.setIfInBounds_toArray, List.set_cons_zero, List.set_cons_succ])))
                refine qs_nil ?_
                go_wp2
                go_roundg (gk - 1)
                case measure => omega
                case rel => exact ⟨j + 1, by omega, by go_num, D17.out⟩
            · go_wp2
              go_roundg (gm - 1)
              case measure => omega
              case rel => exact ⟨k + 1, by omega, by go_num, D.out⟩
        · go_wp2
          go_roundg (go - 1)
          case measure => omega
          case rel => exact ⟨i + 1, by omega, by go_num, below_chain B8.out CR.out⟩
      -- )A
    · obtain rfl : i = 14 := by omega
      obtain ⟨wx, hwx⟩ : ∃ wx, wx = wr := ⟨_, rfl⟩
      rw [← hwx] at BR ⊢
      have LX := Lib.hid (below_chain L2.out BR.out)
      clear hwx BR S2 O2 OZ L2
      go_wp2
      go_loopg [10] 256 (NmI 256 wx)
      case atStart => exact ⟨0, by omega, rfl, Below.refl _ _⟩
      case round =>
        obtain ⟨c, hc, rfl, hbr⟩ := hrel
        have BR := Lib.hid (below_chain LX.out hbr)
        have BX := Lib.hid hbr
        clear hbr
        by_cases hc256 : c < 256
        · -- B(
          have hcI : (c : Int) < 256 := by omega
          obtain ⟨b, hbv⟩ : ∃ b : UInt8, b.toNat = c := ⟨UInt8.ofNat c, by simp; omega⟩
          have hcv := conv_own (l := [b]) (n := 1) (c := 1) (base := 0) (own_one (w := wr.alloc (Obj.cells #[.int .u8 (c : Int)] 5)) (g := wr.heap.size) (by simp [u8s, hbv]) (Blk.made wr 5 #[.int .u8 (c : Int)]) (Nat.zero_le _))
          have HB := Lib.hid hbv
          clear hbv
          have z9 : (⟨#[b]⟩ : ByteArray).size ≤ 1 := Nat.le_refl _
          go_wp2_with fail
          obtain ⟨w3, hw3⟩ : ∃ w3, w3 = wr.alloc (Obj.cells #[.int .u8 (c : Int)] 5) := ⟨_, rfl⟩
          have B3 := Lib.hid (show Below wx.heap.size wx w3 by rw [hw3]; exact BX.out.alloc BX.out.size _)
          rw [← hw3]
          generalize (⟨#[b]⟩ : ByteArray) = sb at *
          clear hw3 hcv
          refine (steps_any _ w3 (Nat.le_trans (app_size (m := 9) (n := 1) (by decide) z9) (by decide)) (HT.out.below (below_chain LX.out B3.out))).mono ?_
          rintro ev w4 ⟨rfl, hb⟩
          have B4 := Lib.hid (below_chain B3.out hb)
          clear hb
          go_wp2_with fail
          refine (steps_any _ w4 (Nat.le_trans (app_size (app_size (m := 8) (n := 1) (by decide) z9) (n := 1) (by decide)) (by decide)) (HT.out.below (below_chain LX.out B4.out))).mono ?_
          rintro ev w5 ⟨rfl, hb⟩
          have B5 := Lib.hid (below_chain B4.out hb)
          clear hb
          go_wp2_with fail
          refine (steps_any _ w5 (Nat.le_trans (app_size (m := 4) (n := 1) (by decide) z9) (by decide)) (HT.out.below (below_chain LX.out B5.out))).mono ?_
          rintro ev w6 ⟨rfl, hb⟩
          have B6 := Lib.hid (below_chain B5.out hb)
          clear hb
          go_wp2_with fail
          obtain ⟨w7, hw7⟩ : ∃ w7, w7 = w6.alloc (Obj.cells #[.int .u8 (c : Int)] 5) := ⟨_, rfl⟩
          have B7 := Lib.hid (show Below wx.heap.size wx w7 by rw [hw7]; exact B6.out.alloc B6.out.size _)
          have R7 := Lib.hid (rd_blk (k := .u8) (n := 1) [(c : Int)] (show Blk w7 w6.heap.size 5 #[.int .u8 (c : Int)] by rw [hw7]; exact Blk.made _ _ _) rfl rfl)
          rw [← hw7]
          clear hw7
          refine (tells_any ⟨(c : Int), (c : Int) % 3, [(c : Int)], ⟨0, 0, 0, 0, 0, 0, 0, 0, 0, []⟩⟩ _ w7 ⟨⟨_, 1, none, 0, rfl, R7.out, RdI.nil _⟩, by simp [By]; omega, by simp, by unfold i64b; simp only; omega, by unfold i64b; simp only; omega, by simp [i64b], by simp, by simp⟩ (HT.out.below (below_chain LX.out B7.out))).mono ?_
          rintro ev w8 ⟨rfl, hb⟩
          have B8 := Lib.hid (below_chain B7.out hb)
          clear hb
          go_wp2
          go_roundg (gk - 1)
          case measure => omega
          case rel => exact ⟨c + 1, by omega, by go_num, B8.out⟩
          -- )B
        · obtain rfl : c = 256 := by omega
          obtain ⟨wy, hwy⟩ : ∃ wy, wy = wr := ⟨_, rfl⟩
          rw [← hwy] at BR ⊢
          clear hwy BX LX
          go_wp2
          -- L5(
          go_loopg [12] 10 (NmI 10 wy)
          case atStart => exact ⟨0, by omega, rfl, Below.refl _ _⟩
          case round =>
            obtain ⟨n, hn, rfl, hbr⟩ := hrel
            have BX := Lib.hid hbr
            clear hbr
            by_cases hn10 : n < 10
            · have hg : gk = 10 - n := by omega
              subst hg
              clear hn
              rcases (show n = 0 ∨ n = 1 ∨ n = 2 ∨ n = 3 ∨ n = 4 ∨ n = 5 ∨ n = 6 ∨ n = 7 ∨ n = 8 ∨ n = 9 by omega) with rfl | rfl | rfl | rfl | rfl | rfl | rfl | rfl | rfl | rfl
              · -- N0(
                go_wp2_with fail
                obtain ⟨w1, hw1⟩ : ∃ w1, w1 = wr.alloc (Obj.cells #[.int .i64 1, .int .i64 0, .int .i64 0, .int .i64 0, .int .i64 0, .int .i64 0, .int .i64 0, .int .i64 0, .slice none 0 0, .int .i64 0] 45) := ⟨_, rfl⟩
                have K1 := Lib.hid (show Blk w1 wr.heap.size 45 #[.int .i64 1, .int .i64 0, .int .i64 0, .int .i64 0, .int .i64 0, .int .i64 0, .int .i64 0, .int .i64 0, .slice none 0 0, .int .i64 0] by rw [hw1]; exact Blk.made _ _ _)
                have B1 := Lib.hid (show Below wy.heap.size wy w1 by rw [hw1]; exact BX.out.alloc BX.out.size _)
                rw [← hw1]
                clear hw1
                refine (tells_any ⟨0, 0, [], ⟨1, 0, 0, 0, 0, 0, 0, 0, 0, []⟩⟩ _ w1 ⟨⟨none, 0, none, 0, rfl, RdI.nil _, RdI.nil _⟩, by simp [By], by simp [i64b], by simp [i64b], by simp [i64b], by simp [i64b], by simp, by simp⟩ (HT.out.below (below_chain BR.out B1.out))).mono ?_
                rintro ev w2 ⟨rfl, hb⟩
                have B2 := Lib.hid (below_chain B1.out hb)
                have K2 := K1.out.below hb K1.out.lt
                have x0 := K2.cell (i := 0) rfl
                have x1 := K2.cell (i := 1) rfl
                have x2 := K2.cell (i := 2) rfl
                have x3 := K2.cell (i := 3) rfl
                have x4 := K2.cell (i := 4) rfl
                have x5 := K2.cell (i := 5) rfl
                have x6 := K2.cell (i := 6) rfl
                have x7 := K2.cell (i := 7) rfl
                have x8 := K2.cell (i := 8) rfl
                have x9 := K2.cell (i := 9) rfl
                clear hb
                go_wp2_with fail
                obtain ⟨w3, hw3⟩ : ∃ w3, w3 = w2.alloc (Obj.cells #[.int .u8 1] 5) := ⟨_, rfl⟩
                have B3 := Lib.hid (show Below wy.heap.size wy w3 by rw [hw3]; exact B2.out.alloc B2.out.size _)
                have H3 := Lib.hid (show Below w2.heap.size w2 w3 by rw [hw3]; exact (Below.refl _ _).alloc (Nat.le_refl _) _)
                have R3 := Lib.hid (rd_blk (k := .u8) (n := 1) [1] (show Blk w3 w2.heap.size 5 #[.int .u8 1] by rw [hw3]; exact Blk.made _ _ _) rfl rfl)
                rw [← hw3]
                clear hw3 x0 x1 x2 x3 x4 x5 x6 x7 x8 x9 K2
                refine (tells_any ⟨1, -1, [1], ⟨1, 0, 0, 0, 0, 0, 0, 0, 0, []⟩⟩ _ w3 ⟨⟨_, 1, none, 0, rfl, R3.out, RdI.nil _⟩, by simp [By], by simp [i64b], by simp [i64b], by simp [i64b], by simp [i64b], by simp, by simp⟩ (HT.out.below (below_chain BR.out B3.out))).mono ?_
                rintro ev w4 ⟨rfl, hb⟩
                have B4 := Lib.hid (below_chain B3.out hb)
                clear hb
                go_wp2
                go_roundg 9
                case measure => decide
                case rel => exact ⟨1, by omega, by go_num, B4.out⟩
                -- )N0
              · -- N1(
                go_wp2_with fail
                obtain ⟨w1, hw1⟩ : ∃ w1, w1 = wr.alloc (Obj.cells #[.int .i64 0, .int .i64 1, .int .i64 0, .int .i64 0, .int .i64 0, .int .i64 0, .int .i64 0, .int .i64 0, .slice none 0 0, .int .i64 0] 45) := ⟨_, rfl⟩
                have K1 := Lib.hid (show Blk w1 wr.heap.size 45 #[.int .i64 0, .int .i64 1, .int .i64 0, .int .i64 0, .int .i64 0, .int .i64 0, .int .i64 0, .int .i64 0, .slice none 0 0, .int .i64 0] by rw [hw1]; exact Blk.made _ _ _)
                have B1 := Lib.hid (show Below wy.heap.size wy w1 by rw [hw1]; exact BX.out.alloc BX.out.size _)
                rw [← hw1]
                clear hw1
                refine (tells_any ⟨0, 0, [], ⟨0, 1, 0, 0, 0, 0, 0, 0, 0, []⟩⟩ _ w1 ⟨⟨none, 0, none, 0, rfl, RdI.nil _, RdI.nil _⟩, by simp [By], by simp [i64b], by simp [i64b], by simp [i64b], by simp [i64b], by simp, by simp⟩ (HT.out.below (below_chain BR.out B1.out))).mono ?_
                rintro ev w2 ⟨rfl, hb⟩
                have B2 := Lib.hid (below_chain B1.out hb)
                have K2 := K1.out.below hb K1.out.lt
                have x0 := K2.cell (i := 0) rfl
                have x1 := K2.cell (i := 1) rfl
                have x2 := K2.cell (i := 2) rfl
                have x3 := K2.cell (i := 3) rfl
                have x4 := K2.cell (i := 4) rfl
                have x5 := K2.cell (i := 5) rfl
                have x6 := K2.cell (i := 6) rfl
                have x7 := K2.cell (i := 7) rfl
                have x8 := K2.cell (i := 8) rfl
                have x9 := K2.cell (i := 9) rfl
                clear hb
                go_wp2_with fail
                obtain ⟨w3, hw3⟩ : ∃ w3, w3 = w2.alloc (Obj.cells #[.int .u8 1] 5) := ⟨_, rfl⟩
                have B3 := Lib.hid (show Below wy.heap.size wy w3 by rw [hw3]; exact B2.out.alloc B2.out.size _)
                have H3 := Lib.hid (show Below w2.heap.size w2 w3 by rw [hw3]; exact (Below.refl _ _).alloc (Nat.le_refl _) _)
                have R3 := Lib.hid (rd_blk (k := .u8) (n := 1) [1] (show Blk w3 w2.heap.size 5 #[.int .u8 1] by rw [hw3]; exact Blk.made _ _ _) rfl rfl)
                rw [← hw3]
                clear hw3 x0 x1 x2 x3 x4 x5 x6 x7 x8 x9 K2
                refine (tells_any ⟨1, -1, [1], ⟨0, 1, 0, 0, 0, 0, 0, 0, 0, []⟩⟩ _ w3 ⟨⟨_, 1, none, 0, rfl, R3.out, RdI.nil _⟩, by simp [By], by simp [i64b], by simp [i64b], by simp [i64b], by simp [i64b], by simp, by simp⟩ (HT.out.below (below_chain BR.out B3.out))).mono ?_
                rintro ev w4 ⟨rfl, hb⟩
                have B4 := Lib.hid (below_chain B3.out hb)
                clear hb
                go_wp2
                go_roundg 8
                case measure => decide
                case rel => exact ⟨2, by omega, by go_num, B4.out⟩
                -- )N1
              · -- N2(
                go_wp2_with fail
                obtain ⟨w1, hw1⟩ : ∃ w1, w1 = wr.alloc (Obj.cells #[.int .i64 0, .int .i64 0, .int .i64 1, .int .i64 0, .int .i64 0, .int .i64 0, .int .i64 0, .int .i64 0, .slice none 0 0, .int .i64 0] 45) := ⟨_, rfl⟩
                have K1 := Lib.hid (show Blk w1 wr.heap.size 45 #[.int .i64 0, .int .i64 0, .int .i64 1, .int .i64 0, .int .i64 0, .int .i64 0, .int .i64 0, .int .i64 0, .slice none 0 0, .int .i64 0] by rw [hw1]; exact Blk.made _ _ _)
                have B1 := Lib.hid (show Below wy.heap.size wy w1 by rw [hw1]; exact BX.out.alloc BX.out.size _)
                rw [← hw1]
                clear hw1
                refine (tells_any ⟨0, 0, [], ⟨0, 0, 1, 0, 0, 0, 0, 0, 0, []⟩⟩ _ w1 ⟨⟨none, 0, none, 0, rfl, RdI.nil _, RdI.nil _⟩, by simp [By], by simp [i64b], by simp [i64b], by simp [i64b], by simp [i64b], by simp, by simp⟩ (HT.out.below (below_chain BR.out B1.out))).mono ?_
                rintro ev w2 ⟨rfl, hb⟩
                have B2 := Lib.hid (below_chain B1.out hb)
                have K2 := K1.out.below hb K1.out.lt
                have x0 := K2.cell (i := 0) rfl
                have x1 := K2.cell (i := 1) rfl
                have x2 := K2.cell (i := 2) rfl
                have x3 := K2.cell (i := 3) rfl
                have x4 := K2.cell (i := 4) rfl
                have x5 := K2.cell (i := 5) rfl
                have x6 := K2.cell (i := 6) rfl
                have x7 := K2.cell (i := 7) rfl
                have x8 := K2.cell (i := 8) rfl
                have x9 := K2.cell (i := 9) rfl
                clear hb
                go_wp2_with fail
                obtain ⟨w3, hw3⟩ : ∃ w3, w3 = w2.alloc (Obj.cells #[.int .u8 1] 5) := ⟨_, rfl⟩
                have B3 := Lib.hid (show Below wy.heap.size wy w3 by rw [hw3]; exact B2.out.alloc B2.out.size _)
                have H3 := Lib.hid (show Below w2.heap.size w2 w3 by rw [hw3]; exact (Below.refl _ _).alloc (Nat.le_refl _) _)
                have R3 := Lib.hid (rd_blk (k := .u8) (n := 1) [1] (show Blk w3 w2.heap.size 5 #[.int .u8 1] by rw [hw3]; exact Blk.made _ _ _) rfl rfl)
                rw [← hw3]
                clear hw3 x0 x1 x2 x3 x4 x5 x6 x7 x8 x9 K2
                refine (tells_any ⟨1, -1, [1], ⟨0, 0, 1, 0, 0, 0, 0, 0, 0, []⟩⟩ _ w3 ⟨⟨_, 1, none, 0, rfl, R3.out, RdI.nil _⟩, by simp [By], by simp [i64b], by simp [i64b], by simp [i64b], by simp [i64b], by simp, by simp⟩ (HT.out.below (below_chain BR.out B3.out))).mono ?_
                rintro ev w4 ⟨rfl, hb⟩
                have B4 := Lib.hid (below_chain B3.out hb)
                clear hb
                go_wp2
                go_roundg 7
                case measure => decide
                case rel => exact ⟨3, by omega, by go_num, B4.out⟩
                -- )N2
              · -- N3(
                go_wp2_with fail
                obtain ⟨w1, hw1⟩ : ∃ w1, w1 = wr.alloc (Obj.cells #[.int .i64 0, .int .i64 0, .int .i64 0, .int .i64 1, .int .i64 0, .int .i64 0, .int .i64 0, .int .i64 0, .slice none 0 0, .int .i64 0] 45) := ⟨_, rfl⟩
                have K1 := Lib.hid (show Blk w1 wr.heap.size 45 #[.int .i64 0, .int .i64 0, .int .i64 0, .int .i64 1, .int .i64 0, .int .i64 0, .int .i64 0, .int .i64 0, .slice none 0 0, .int .i64 0] by rw [hw1]; exact Blk.made _ _ _)
                have B1 := Lib.hid (show Below wy.heap.size wy w1 by rw [hw1]; exact BX.out.alloc BX.out.size _)
                rw [← hw1]
                clear hw1
                refine (tells_any ⟨0, 0, [], ⟨0, 0, 0, 1, 0, 0, 0, 0, 0, []⟩⟩ _ w1 ⟨⟨none, 0, none, 0, rfl, RdI.nil _, RdI.nil _⟩, by simp [By], by simp [i64b], by simp [i64b], by simp [i64b], by simp [i64b], by simp, by simp⟩ (HT.out.below (below_chain BR.out B1.out))).mono ?_
                rintro ev w2 ⟨rfl, hb⟩
                have B2 := Lib.hid (below_chain B1.out hb)
                have K2 := K1.out.below hb K1.out.lt
                have x0 := K2.cell (i := 0) rfl
                have x1 := K2.cell (i := 1) rfl
                have x2 := K2.cell (i := 2) rfl
                have x3 := K2.cell (i := 3) rfl
                have x4 := K2.cell (i := 4) rfl
                have x5 := K2.cell (i := 5) rfl
                have x6 := K2.cell (i := 6) rfl
                have x7 := K2.cell (i := 7) rfl
                have x8 := K2.cell (i := 8) rfl
                have x9 := K2.cell (i := 9) rfl
                clear hb
                go_wp2_with fail
                obtain ⟨w3, hw3⟩ : ∃ w3, w3 = w2.alloc (Obj.cells #[.int .u8 1] 5) := ⟨_, rfl⟩
                have B3 := Lib.hid (show Below wy.heap.size wy w3 by rw [hw3]; exact B2.out.alloc B2.out.size _)
                have H3 := Lib.hid (show Below w2.heap.size w2 w3 by rw [hw3]; exact (Below.refl _ _).alloc (Nat.le_refl _) _)
                have R3 := Lib.hid (rd_blk (k := .u8) (n := 1) [1] (show Blk w3 w2.heap.size 5 #[.int .u8 1] by rw [hw3]; exact Blk.made _ _ _) rfl rfl)
                rw [← hw3]
                clear hw3 x0 x1 x2 x3 x4 x5 x6 x7 x8 x9 K2
                refine (tells_any ⟨1, -1, [1], ⟨0, 0, 0, 1, 0, 0, 0, 0, 0, []⟩⟩ _ w3 ⟨⟨_, 1, none, 0, rfl, R3.out, RdI.nil _⟩, by simp [By], by simp [i64b], by simp [i64b], by simp [i64b], by simp [i64b], by simp, by simp⟩ (HT.out.below (below_chain BR.out B3.out))).mono ?_
                rintro ev w4 ⟨rfl, hb⟩
                have B4 := Lib.hid (below_chain B3.out hb)
                clear hb
                go_wp2
                go_roundg 6
                case measure => decide
                case rel => exact ⟨4, by omega, by go_num, B4.out⟩
                -- )N3
              · -- N4(
                go_wp2_with fail
                obtain ⟨w1, hw1⟩ : ∃ w1, w1 = wr.alloc (Obj.cells #[.int .i64 0, .int .i64 0, .int .i64 0, .int .i64 0, .int .i64 1, .int .i64 0, .int .i64 0, .int .i64 0, .slice none 0 0, .int .i64 0] 45) := ⟨_, rfl⟩
                have K1 := Lib.hid (show Blk w1 wr.heap.size 45 #[.int .i64 0, .int .i64 0, .int .i64 0, .int .i64 0, .int .i64 1, .int .i64 0, .int .i64 0, .int .i64 0, .slice none 0 0, .int .i64 0] by rw [hw1]; exact Blk.made _ _ _)
                have B1 := Lib.hid (show Below wy.heap.size wy w1 by rw [hw1]; exact BX.out.alloc BX.out.size _)
                rw [← hw1]
                clear hw1
                refine (tells_any ⟨0, 0, [], ⟨0, 0, 0, 0, 1, 0, 0, 0, 0, []⟩⟩ _ w1 ⟨⟨none, 0, none, 0, rfl, RdI.nil _, RdI.nil _⟩, by simp [By], by simp [i64b], by simp [i64b], by simp [i64b], by simp [i64b], by simp, by simp⟩ (HT.out.below (below_chain BR.out B1.out))).mono ?_
                rintro ev w2 ⟨rfl, hb⟩
                have B2 := Lib.hid (below_chain B1.out hb)
                have K2 := K1.out.below hb K1.out.lt
                have x0 := K2.cell (i := 0) rfl
                have x1 := K2.cell (i := 1) rfl
                have x2 := K2.cell (i := 2) rfl
                have x3 := K2.cell (i := 3) rfl
                have x4 := K2.cell (i := 4) rfl
                have x5 := K2.cell (i := 5) rfl
                have x6 := K2.cell (i := 6) rfl
                have x7 := K2.cell (i := 7) rfl
                have x8 := K2.cell (i := 8) rfl
                have x9 := K2.cell (i := 9) rfl
                clear hb
                go_wp2_with fail
                obtain ⟨w3, hw3⟩ : ∃ w3, w3 = w2.alloc (Obj.cells #[.int .u8 1] 5) := ⟨_, rfl⟩
                have B3 := Lib.hid (show Below wy.heap.size wy w3 by rw [hw3]; exact B2.out.alloc B2.out.size _)
                have H3 := Lib.hid (show Below w2.heap.size w2 w3 by rw [hw3]; exact (Below.refl _ _).alloc (Nat.le_refl _) _)
                have R3 := Lib.hid (rd_blk (k := .u8) (n := 1) [1] (show Blk w3 w2.heap.size 5 #[.int .u8 1] by rw [hw3]; exact Blk.made _ _ _) rfl rfl)
                rw [← hw3]
                clear hw3 x0 x1 x2 x3 x4 x5 x6 x7 x8 x9 K2
                refine (tells_any ⟨1, -1, [1], ⟨0, 0, 0, 0, 1, 0, 0, 0, 0, []⟩⟩ _ w3 ⟨⟨_, 1, none, 0, rfl, R3.out, RdI.nil _⟩, by simp [By], by simp [i64b], by simp [i64b], by simp [i64b], by simp [i64b], by simp, by simp⟩ (HT.out.below (below_chain BR.out B3.out))).mono ?_
                rintro ev w4 ⟨rfl, hb⟩
                have B4 := Lib.hid (below_chain B3.out hb)
                clear hb
                go_wp2
                go_roundg 5
                case measure => decide
                case rel => exact ⟨5, by omega, by go_num, B4.out⟩
                -- )N4
              · -- N5(
                go_wp2_with fail
                obtain ⟨w1, hw1⟩ : ∃ w1, w1 = wr.alloc (Obj.cells #[.int .i64 0, .int .i64 0, .int .i64 0, .int .i64 0, .int .i64 0, .int .i64 (-1), .int .i64 0, .int .i64 0, .slice none 0 0, .int .i64 0] 45) := ⟨_, rfl⟩
                have K1 := Lib.hid (show Blk w1 wr.heap.size 45 #[.int .i64 0, .int .i64 0, .int .i64 0, .int .i64 0, .int .i64 0, .int .i64 (-1), .int .i64 0, .int .i64 0, .slice none 0 0, .int .i64 0] by rw [hw1]; exact Blk.made _ _ _)
                have B1 := Lib.hid (show Below wy.heap.size wy w1 by rw [hw1]; exact BX.out.alloc BX.out.size _)
                rw [← hw1]
                clear hw1
                refine (tells_any ⟨0, 0, [], ⟨0, 0, 0, 0, 0, (-1), 0, 0, 0, []⟩⟩ _ w1 ⟨⟨none, 0, none, 0, rfl, RdI.nil _, RdI.nil _⟩, by simp [By], by simp [i64b], by simp [i64b], by simp [i64b], by simp [i64b], by simp, by simp⟩ (HT.out.below (below_chain BR.out B1.out))).mono ?_
                rintro ev w2 ⟨rfl, hb⟩
                have B2 := Lib.hid (below_chain B1.out hb)
                have K2 := K1.out.below hb K1.out.lt
                have x0 := K2.cell (i := 0) rfl
                have x1 := K2.cell (i := 1) rfl
                have x2 := K2.cell (i := 2) rfl
                have x3 := K2.cell (i := 3) rfl
                have x4 := K2.cell (i := 4) rfl
                have x5 := K2.cell (i := 5) rfl
                have x6 := K2.cell (i := 6) rfl
                have x7 := K2.cell (i := 7) rfl
                have x8 := K2.cell (i := 8) rfl
                have x9 := K2.cell (i := 9) rfl
                clear hb
                go_wp2_with fail
                obtain ⟨w3, hw3⟩ : ∃ w3, w3 = w2.alloc (Obj.cells #[.int .u8 1] 5) := ⟨_, rfl⟩
                have B3 := Lib.hid (show Below wy.heap.size wy w3 by rw [hw3]; exact B2.out.alloc B2.out.size _)
                have H3 := Lib.hid (show Below w2.heap.size w2 w3 by rw [hw3]; exact (Below.refl _ _).alloc (Nat.le_refl _) _)
                have R3 := Lib.hid (rd_blk (k := .u8) (n := 1) [1] (show Blk w3 w2.heap.size 5 #[.int .u8 1] by rw [hw3]; exact Blk.made _ _ _) rfl rfl)
                rw [← hw3]
                clear hw3 x0 x1 x2 x3 x4 x5 x6 x7 x8 x9 K2
                refine (tells_any ⟨1, -1, [1], ⟨0, 0, 0, 0, 0, (-1), 0, 0, 0, []⟩⟩ _ w3 ⟨⟨_, 1, none, 0, rfl, R3.out, RdI.nil _⟩, by simp [By], by simp [i64b], by simp [i64b], by simp [i64b], by simp [i64b], by simp, by simp⟩ (HT.out.below (below_chain BR.out B3.out))).mono ?_
                rintro ev w4 ⟨rfl, hb⟩
                have B4 := Lib.hid (below_chain B3.out hb)
                clear hb
                go_wp2
                go_roundg 4
                case measure => decide
                case rel => exact ⟨6, by omega, by go_num, B4.out⟩
                -- )N5
              · -- N6(
                go_wp2_with fail
                obtain ⟨w1, hw1⟩ : ∃ w1, w1 = wr.alloc (Obj.cells #[.int .i64 0, .int .i64 0, .int .i64 0, .int .i64 0, .int .i64 0, .int .i64 0, .int .i64 1, .int .i64 0, .slice none 0 0, .int .i64 0] 45) := ⟨_, rfl⟩
                have K1 := Lib.hid (show Blk w1 wr.heap.size 45 #[.int .i64 0, .int .i64 0, .int .i64 0, .int .i64 0, .int .i64 0, .int .i64 0, .int .i64 1, .int .i64 0, .slice none 0 0, .int .i64 0] by rw [hw1]; exact Blk.made _ _ _)
                have B1 := Lib.hid (show Below wy.heap.size wy w1 by rw [hw1]; exact BX.out.alloc BX.out.size _)
                rw [← hw1]
                clear hw1
                refine (tells_any ⟨0, 0, [], ⟨0, 0, 0, 0, 0, 0, 1, 0, 0, []⟩⟩ _ w1 ⟨⟨none, 0, none, 0, rfl, RdI.nil _, RdI.nil _⟩, by simp [By], by simp [i64b], by simp [i64b], by simp [i64b], by simp [i64b], by simp, by simp⟩ (HT.out.below (below_chain BR.out B1.out))).mono ?_
                rintro ev w2 ⟨rfl, hb⟩
                have B2 := Lib.hid (below_chain B1.out hb)
                have K2 := K1.out.below hb K1.out.lt
                have x0 := K2.cell (i := 0) rfl
                have x1 := K2.cell (i := 1) rfl
                have x2 := K2.cell (i := 2) rfl
                have x3 := K2.cell (i := 3) rfl
                have x4 := K2.cell (i := 4) rfl
                have x5 := K2.cell (i := 5) rfl
                have x6 := K2.cell (i := 6) rfl
                have x7 := K2.cell (i := 7) rfl
                have x8 := K2.cell (i := 8) rfl
                have x9 := K2.cell (i := 9) rfl
                clear hb
                go_wp2_with fail
                obtain ⟨w3, hw3⟩ : ∃ w3, w3 = w2.alloc (Obj.cells #[.int .u8 1] 5) := ⟨_, rfl⟩
                have B3 := Lib.hid (show Below wy.heap.size wy w3 by rw [hw3]; exact B2.out.alloc B2.out.size _)
                have H3 := Lib.hid (show Below w2.heap.size w2 w3 by rw [hw3]; exact (Below.refl _ _).alloc (Nat.le_refl _) _)
                have R3 := Lib.hid (rd_blk (k := .u8) (n := 1) [1] (show Blk w3 w2.heap.size 5 #[.int .u8 1] by rw [hw3]; exact Blk.made _ _ _) rfl rfl)
                rw [← hw3]
                clear hw3 x0 x1 x2 x3 x4 x5 x6 x7 x8 x9 K2
                refine (tells_any ⟨1, -1, [1], ⟨0, 0, 0, 0, 0, 0, 1, 0, 0, []⟩⟩ _ w3 ⟨⟨_, 1, none, 0, rfl, R3.out, RdI.nil _⟩, by simp [By], by simp [i64b], by simp [i64b], by simp [i64b], by simp [i64b], by simp, by simp⟩ (HT.out.below (below_chain BR.out B3.out))).mono ?_
                rintro ev w4 ⟨rfl, hb⟩
                have B4 := Lib.hid (below_chain B3.out hb)
                clear hb
                go_wp2
                go_roundg 3
                case measure => decide
                case rel => exact ⟨7, by omega, by go_num, B4.out⟩
                -- )N6
              · -- N7(
                go_wp2_with fail
                obtain ⟨w1, hw1⟩ : ∃ w1, w1 = wr.alloc (Obj.cells #[.int .i64 0, .int .i64 0, .int .i64 0, .int .i64 0, .int .i64 0, .int .i64 0, .int .i64 0, .int .i64 1, .slice none 0 0, .int .i64 0] 45) := ⟨_, rfl⟩
                have K1 := Lib.hid (show Blk w1 wr.heap.size 45 #[.int .i64 0, .int .i64 0, .int .i64 0, .int .i64 0, .int .i64 0, .int .i64 0, .int .i64 0, .int .i64 1, .slice none 0 0, .int .i64 0] by rw [hw1]; exact Blk.made _ _ _)
                have B1 := Lib.hid (show Below wy.heap.size wy w1 by rw [hw1]; exact BX.out.alloc BX.out.size _)
                rw [← hw1]
                clear hw1
                refine (tells_any ⟨0, 0, [], ⟨0, 0, 0, 0, 0, 0, 0, 1, 0, []⟩⟩ _ w1 ⟨⟨none, 0, none, 0, rfl, RdI.nil _, RdI.nil _⟩, by simp [By], by simp [i64b], by simp [i64b], by simp [i64b], by simp [i64b], by simp, by simp⟩ (HT.out.below (below_chain BR.out B1.out))).mono ?_
                rintro ev w2 ⟨rfl, hb⟩
                have B2 := Lib.hid (below_chain B1.out hb)
                have K2 := K1.out.below hb K1.out.lt
                have x0 := K2.cell (i := 0) rfl
                have x1 := K2.cell (i := 1) rfl
                have x2 := K2.cell (i := 2) rfl
                have x3 := K2.cell (i := 3) rfl
                have x4 := K2.cell (i := 4) rfl
                have x5 := K2.cell (i := 5) rfl
                have x6 := K2.cell (i := 6) rfl
                have x7 := K2.cell (i := 7) rfl
                have x8 := K2.cell (i := 8) rfl
                have x9 := K2.cell (i := 9) rfl
                clear hb
                go_wp2_with fail
                obtain ⟨w3, hw3⟩ : ∃ w3, w3 = w2.alloc (Obj.cells #[.int .u8 1] 5) := ⟨_, rfl⟩
                have B3 := Lib.hid (show Below wy.heap.size wy w3 by rw [hw3]; exact B2.out.alloc B2.out.size _)
                have H3 := Lib.hid (show Below w2.heap.size w2 w3 by rw [hw3]; exact (Below.refl _ _).alloc (Nat.le_refl _) _)
                have R3 := Lib.hid (rd_blk (k := .u8) (n := 1) [1] (show Blk w3 w2.heap.size 5 #[.int .u8 1] by rw [hw3]; exact Blk.made _ _ _) rfl rfl)
                rw [← hw3]
                clear hw3 x0 x1 x2 x3 x4 x5 x6 x7 x8 x9 K2
                refine (tells_any ⟨1, -1, [1], ⟨0, 0, 0, 0, 0, 0, 0, 1, 0, []⟩⟩ _ w3 ⟨⟨_, 1, none, 0, rfl, R3.out, RdI.nil _⟩, by simp [By], by simp [i64b], by simp [i64b], by simp [i64b], by simp [i64b], by simp, by simp⟩ (HT.out.below (below_chain BR.out B3.out))).mono ?_
                rintro ev w4 ⟨rfl, hb⟩
                have B4 := Lib.hid (below_chain B3.out hb)
                clear hb
                go_wp2
                go_roundg 2
                case measure => decide
                case rel => exact ⟨8, by omega, by go_num, B4.out⟩
                -- )N7
              · -- N8(
                go_wp2_with fail
                obtain ⟨w1, hw1⟩ : ∃ w1, w1 = wr.alloc (Obj.cells #[.int .i64 0, .int .i64 0, .int .i64 0, .int .i64 0, .int .i64 0, .int .i64 0, .int .i64 0, .int .i64 0, .slice none 0 0, .int .i64 1] 45) := ⟨_, rfl⟩
                have K1 := Lib.hid (show Blk w1 wr.heap.size 45 #[.int .i64 0, .int .i64 0, .int .i64 0, .int .i64 0, .int .i64 0, .int .i64 0, .int .i64 0, .int .i64 0, .slice none 0 0, .int .i64 1] by rw [hw1]; exact Blk.made _ _ _)
                have B1 := Lib.hid (show Below wy.heap.size wy w1 by rw [hw1]; exact BX.out.alloc BX.out.size _)
                rw [← hw1]
                clear hw1
                refine (tells_any ⟨0, 0, [], ⟨0, 0, 0, 0, 0, 0, 0, 0, 1, []⟩⟩ _ w1 ⟨⟨none, 0, none, 0, rfl, RdI.nil _, RdI.nil _⟩, by simp [By], by simp [i64b], by simp [i64b], by simp [i64b], by simp [i64b], by simp, by simp⟩ (HT.out.below (below_chain BR.out B1.out))).mono ?_
                rintro ev w2 ⟨rfl, hb⟩
                have B2 := Lib.hid (below_chain B1.out hb)
                have K2 := K1.out.below hb K1.out.lt
                have x0 := K2.cell (i := 0) rfl
                have x1 := K2.cell (i := 1) rfl
                have x2 := K2.cell (i := 2) rfl
                have x3 := K2.cell (i := 3) rfl
                have x4 := K2.cell (i := 4) rfl
                have x5 := K2.cell (i := 5) rfl
                have x6 := K2.cell (i := 6) rfl
                have x7 := K2.cell (i := 7) rfl
                have x8 := K2.cell (i := 8) rfl
                have x9 := K2.cell (i := 9) rfl
                clear hb
                go_wp2_with fail
                obtain ⟨w3, hw3⟩ : ∃ w3, w3 = w2.alloc (Obj.cells #[.int .u8 1] 5) := ⟨_, rfl⟩
                have B3 := Lib.hid (show Below wy.heap.size wy w3 by rw [hw3]; exact B2.out.alloc B2.out.size _)
                have H3 := Lib.hid (show Below w2.heap.size w2 w3 by rw [hw3]; exact (Below.refl _ _).alloc (Nat.le_refl _) _)
                have R3 := Lib.hid (rd_blk (k := .u8) (n := 1) [1] (show Blk w3 w2.heap.size 5 #[.int .u8 1] by rw [hw3]; exact Blk.made _ _ _) rfl rfl)
                rw [← hw3]
                clear hw3 x0 x1 x2 x3 x4 x5 x6 x7 x8 x9 K2
                refine (tells_any ⟨1, -1, [1], ⟨0, 0, 0, 0, 0, 0, 0, 0, 1, []⟩⟩ _ w3 ⟨⟨_, 1, none, 0, rfl, R3.out, RdI.nil _⟩, by simp [By], by simp [i64b], by simp [i64b], by simp [i64b], by simp [i64b], by simp, by simp⟩ (HT.out.below (below_chain BR.out B3.out))).mono ?_
                rintro ev w4 ⟨rfl, hb⟩
                have B4 := Lib.hid (below_chain B3.out hb)
                clear hb
                go_wp2
                go_roundg 1
                case measure => decide
                case rel => exact ⟨9, by omega, by go_num, B4.out⟩
                -- )N8
              · -- N9(
                go_wp2_with fail
                obtain ⟨w1, hw1⟩ : ∃ w1, w1 = (wr.alloc (Obj.cells #[.int .i64 0, .int .i64 0, .int .i64 0, .int .i64 0, .int .i64 0, .int .i64 0, .int .i64 0, .int .i64 0, .slice (some ⟨wr.heap.size + 1, 0, none⟩) 2 2, .int .i64 0] 45)).alloc (Obj.cells #[.int .i64 0, .int .i64 5] 3) := ⟨_, rfl⟩
                have K1 := Lib.hid (show Blk w1 wr.heap.size 45 #[.int .i64 0, .int .i64 0, .int .i64 0, .int .i64 0, .int .i64 0, .int .i64 0, .int .i64 0, .int .i64 0, .slice (some ⟨wr.heap.size + 1, 0, none⟩) 2 2, .int .i64 0] by rw [hw1]; exact (Blk.made _ _ _).alloc _)
                have R1 := Lib.hid (rd_blk (k := .i64) (n := 2) [0, 5] (show Blk w1 (wr.heap.size + 1) 3 #[.int .i64 0, .int .i64 5] by rw [hw1]; exact Blk.made_at _ _ _ (by simp)) rfl rfl)
                have B1 := Lib.hid (show Below wy.heap.size wy w1 by rw [hw1]; exact (BX.out.alloc BX.out.size _).alloc (by have := BX.out.size; simp; omega) _)
                rw [← hw1]
                clear hw1
                refine (tells_any ⟨0, 0, [], ⟨0, 0, 0, 0, 0, 0, 0, 0, 0, [0, 5]⟩⟩ _ w1 ⟨⟨none, 0, _, 2, rfl, RdI.nil _, R1.out⟩, by simp [By], by simp [i64b], by simp [i64b], by simp [i64b], by simp [i64b], by simp, by simp⟩ (HT.out.below (below_chain BR.out B1.out))).mono ?_
                rintro ev w2 ⟨rfl, hb⟩
                have R2 := Lib.hid (R1.out.below hb)
                have B2 := Lib.hid (below_chain B1.out hb)
                have K2 := K1.out.below hb K1.out.lt
                have x0 := K2.cell (i := 0) rfl
                have x1 := K2.cell (i := 1) rfl
                have x2 := K2.cell (i := 2) rfl
                have x3 := K2.cell (i := 3) rfl
                have x4 := K2.cell (i := 4) rfl
                have x5 := K2.cell (i := 5) rfl
                have x6 := K2.cell (i := 6) rfl
                have x7 := K2.cell (i := 7) rfl
                have x8 := K2.cell (i := 8) rfl
                have x9 := K2.cell (i := 9) rfl
                clear hb
                go_wp2_with fail
                obtain ⟨w3, hw3⟩ : ∃ w3, w3 = w2.alloc (Obj.cells #[.int .u8 1] 5) := ⟨_, rfl⟩
                have B3 := Lib.hid (show Below wy.heap.size wy w3 by rw [hw3]; exact B2.out.alloc B2.out.size _)
                have H3 := Lib.hid (show Below w2.heap.size w2 w3 by rw [hw3]; exact (Below.refl _ _).alloc (Nat.le_refl _) _)
                have R3 := Lib.hid (rd_blk (k := .u8) (n := 1) [1] (show Blk w3 w2.heap.size 5 #[.int .u8 1] by rw [hw3]; exact Blk.made _ _ _) rfl rfl)
                rw [← hw3]
                clear hw3 x0 x1 x2 x3 x4 x5 x6 x7 x8 x9 K2
                have R4 := Lib.hid (R2.out.below (show Below w2.heap.size w2 w3 from H3.out))
                refine (tells_any ⟨1, -1, [1], ⟨0, 0, 0, 0, 0, 0, 0, 0, 0, [0, 5]⟩⟩ _ w3 ⟨⟨_, 1, _, 2, rfl, R3.out, R4.out⟩, by simp [By], by simp [i64b], by simp [i64b], by simp [i64b], by simp [i64b], by simp, by simp⟩ (HT.out.below (below_chain BR.out B3.out))).mono ?_
                rintro ev w4 ⟨rfl, hb⟩
                have B4 := Lib.hid (below_chain B3.out hb)
                clear hb
                go_wp2
                go_roundg 0
                case measure => decide
                case rel => exact ⟨10, by omega, by go_num, B4.out⟩
                -- )N9
            · obtain rfl : n = 10 := by omega
              obtain ⟨wz, hwz⟩ : ∃ wz, wz = wr := ⟨_, rfl⟩
              rw [← hwz] at BX ⊢
              have LZ := Lib.hid (below_chain BR.out BX.out)
              clear hwz BX BR
              go_wp2_with fail
              -- E(
              refine (Tryz.strings_Repeat _ 524284 wz (by omega) (of_decide_eq_true (by kernel_rfl))).mono ?_
              rintro ev w1 ⟨rfl, hb⟩
              have B1 := Lib.hid (below_chain LZ.out hb)
              obtain ⟨kk, hkk⟩ : ∃ kk, kk + 1 = 524284 := ⟨524283, rfl⟩
              obtain ⟨R, hR⟩ : ∃ R : ByteArray, R = ⟨(Lib.repeatL (⟨#[48, 48]⟩ : ByteArray).data.toList 524284).toArray⟩ := ⟨_, rfl⟩
              rw [← hR]
              rw [← hkk] at hR
              obtain ⟨Lg, hLg⟩ : ∃ Lg : ByteArray, Lg = ⟨#[119, 114, 105, 116, 101, 32, 49, 32]⟩ ++ R := ⟨_, rfl⟩
              obtain ⟨hl1, hl2, hl3⟩ := long_facts kk R hR Lg hLg
              have hsz : Lg.size = 1048576 := by omega
              have hszI : (1 : Int) ≤ (Lg.size : Int) := by omega
              have hRs : R.size ≤ 1048568 := by
                have h := hsz
                rw [hLg, ByteArray.size_append, show (⟨#[119, 114, 105, 116, 101, 32, 49, 32]⟩ : ByteArray).size = 8 from rfl] at h
                omega
              have HSz := Lib.hid hsz
              obtain ⟨y, hy⟩ : ∃ y, stepL Lg.data.toList = some y := ⟨_, hl2⟩
              have H2 := Lib.hid hy
              clear hy
              have H3 := Lib.hid hl3
              have HLg := Lib.hid hLg
              clear hb hR hl1 hl2 hl3 hkk hsz hLg
              go_wp2_with fail
              rw [← HLg.out]
              have q1 := Lib.hid (size_more Lg 48)
              generalize (Lg ++ (⟨#[48]⟩ : ByteArray)) = L0 at *
              refine (step_long L0 w1 (by have h1 := q1.out; have h2 := HSz.out; omega) (by have h1 := q1.out; have h2 := HSz.out; omega)).mono ?_
              rintro ev w2 ⟨rfl, hb⟩
              have B2 := Lib.hid (below_chain B1.out hb)
              clear hb
              unfold stepVs zeroS
              go_wp2_with fail
              obtain ⟨w3, hw3⟩ : ∃ w3, w3 = w2.alloc (Obj.cells #[.int .u8 0, .int .i64 0, .int .i64 0, .int .i64 0, .slice none 0 0, .slice none 0 0] 27) := ⟨_, rfl⟩
              have B3 := Lib.hid (show Below w.heap.size w w3 by rw [hw3]; exact B2.out.alloc B2.out.size _)
              rw [← hw3]
              clear hw3
              refine (step_any Lg w3 (HT.out.below B3.out) (Nat.le_of_eq HSz.out)).mono ?_
              rintro ev w4 ⟨hb, he⟩
              rw [H2.out] at he
              simp only at he
              obtain ⟨A, c, A', c', rfl, _, _⟩ := he
              have B4 := Lib.hid (below_chain B3.out hb)
              clear hb
              unfold stepVs
              go_wp2_with fail
              obtain ⟨w5, hw5⟩ : ∃ w5, w5 = w4.alloc (Obj.cells #[.int .u8 y.kind, .int .i64 y.pos, .int .i64 y.n, .int .i64 y.snap, .slice A y.bytes.length c, .slice A' y.fates.length c'] 27) := ⟨_, rfl⟩
              have B5 := Lib.hid (show Below w.heap.size w w5 by rw [hw5]; exact B4.out.alloc B4.out.size _)
              rw [← hw5]
              clear hw5
              have q5 : (Lg.extract 1 Lg.size).size ≤ Lg.size := by rw [ByteArray.size_extract]; omega
              refine (step_any (Lg.extract 1 Lg.size) w5 (HT.out.below B5.out) (Nat.le_trans q5 (Nat.le_of_eq HSz.out))).mono ?_
              rintro ev w6 ⟨hb, he⟩
              rw [H3.out] at he
              simp only at he
              subst he
              have B6 := Lib.hid (below_chain B5.out hb)
              clear hb q5
              unfold stepVs zeroS
              go_wp2_with fail
              obtain ⟨w7, hw7⟩ : ∃ w7, w7 = w6.alloc (Obj.cells #[.int .u8 0, .int .i64 0, .int .i64 0, .int .i64 0, .slice none 0 0, .slice none 0 0] 27) := ⟨_, rfl⟩
              have B7 := Lib.hid (show Below w.heap.size w w7 by rw [hw7]; exact B6.out.alloc B6.out.size _)
              rw [← hw7]
              clear hw7
              refine (awake_any w7 (HT.out.below B7.out)).mono ?_
              rintro ev w8 ⟨rfl, hb⟩
              have B8 := Lib.hid (below_chain B7.out hb)
              clear hb
              go_wp2
              go_ret
              exact ⟨rfl, B8.out⟩
              -- )E
          -- )L5
  -- )L1
end Go.Proofs.YtfehgpjnlkgekaaGreatDoor
