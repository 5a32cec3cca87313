/-
  what this claim needs of: StO3, StM7 (written by cut.py).
-/
import Derived.Test.YtffalfacakdhkaaGreatDoorDStO1
import Derived.Test.YtffalfacakdhkaaGreatDoorDStM
import Derived.Test.YtffalfacakdhkaaGreatDoorDLayg
namespace Go.Proofs.YtffalfacakdhkaaGreatDoor
open Go.RowKit Go.Maps Go.Sort Go.Shelf
set_option linter.unusedVariables false
set_option linter.unusedSimpArgs false

def RgPost (o : OpV) (w : World) (e : Ending) (w' : World) : Prop := e = .returned (.bool (rightB o)) ∧ Below w.heap.size w w'
theorem ow_is {n a b : Int} {q : Bool} (h : q = inB n a b) (w : World) : Calls Tryz.prog 253 #[.int .i64 n, .int .i64 a, .int .i64 b] w fun e w' => e = .returned (.bool q) ∧ w = w' := by
 subst h
 exact opWithin_any n a b w
theorem op_cells {w : World} {g : Nat} {o : OpV} {A : Option Addr} {c : Nat} {B : Option Addr} {d : Nat} (h : Blk w g 138 (opC o A c B d).toArray) :
  w.cell? ⟨g, 0, none⟩ = some (.int .u8 o.kind) ∧ w.cell? ⟨g, 1, none⟩ = some (.int .i64 o.pos) ∧ w.cell? ⟨g, 2, none⟩ = some (.int .i64 o.n) ∧ w.cell? ⟨g, 3, none⟩ = some (.int .i64 o.snap) ∧ w.cell? ⟨g, 4, none⟩ = some (.slice A o.news.length c) ∧ w.cell? ⟨g, 5, none⟩ = some (.slice B o.puts.length d) :=
 ⟨h.cell rfl, h.cell rfl, h.cell rfl, h.cell rfl, h.cell rfl, h.cell rfl⟩
theorem no_of {o : OpV} (P : Prop) (h : rightB o = true → P) (hn : ¬ P) : rightB o = false := by
 cases hr : rightB o with
 | false => rfl
 | true => exact absurd (h hr) hn
theorem no_is {o : OpV} {P : Prop} (h : rightB o = true ↔ P) (hn : ¬ P) : rightB o = false := by
 cases hr : rightB o with
 | false => rfl
 | true => exact absurd (h.1 hr) hn
theorem r1_of {o : OpV} (hk : o.kind = 1) (h : rightB o = true) : o.pos = 0 ∧ o.n = 0 ∧ o.snap = 0 := by
 unfold rightB at h
 rw [if_pos hk] at h
 simp only [Bool.and_eq_true, decide_eq_true_eq] at h
 omega
theorem r2_is {o : OpV} (hk : o.kind = 2) : rightB o = true ↔ (o.news.length = 0 ∧ o.puts.length = 0 ∧ o.snap = 0 ∧ 0 ≤ o.pos ∧ o.pos ≤ 4096 ∧ 0 ≤ o.n ∧ o.n ≤ 4096) := by
 unfold rightB inB
 rw [if_neg (by omega), if_pos hk]
 simp only [Bool.and_eq_true, decide_eq_true_eq]
 omega
theorem r3_is {o : OpV} (hk : o.kind = 3 ∨ o.kind = 4 ∨ o.kind = 5) : rightB o = true ↔ (o.news.length = 0 ∧ o.puts.length = 0 ∧ o.pos = 0 ∧ o.n = 0 ∧ 1 ≤ o.snap ∧ o.snap ≤ 1073741824) := by
 unfold rightB inB
 rw [if_neg (by omega), if_neg (by omega), if_pos hk]
 simp only [Bool.and_eq_true, decide_eq_true_eq]
 omega

set_option maxRecDepth 100000 in
set_option maxHeartbeats 8000000 in
theorem opr_1 {w : World} {o : OpV} {A : Option Addr} {c : Nat} {B : Option Addr} {d : Nat} (h : OpAt w o A c B d) (hn : o.news.length ≤ 100000000) (hm : o.puts.length ≤ 100000000) (hkk : o.kind = 1) :
  Calls Tryz.prog 173 #[.agg (opC o A c B d).toArray] w (RgPost o w) := by
 have e1 : (o.kind == 1) = true := beq_iff_eq.2 hkk
 have e2 : (o.kind == 2) = false := beq_eq_false_iff_ne.2 (by omega)
 have e3 : (o.kind == 3) = false := beq_eq_false_iff_ne.2 (by omega)
 have e4 : (o.kind == 4) = false := beq_eq_false_iff_ne.2 (by omega)
 have e5 : (o.kind == 5) = false := beq_eq_false_iff_ne.2 (by omega)
 have HKK := yH hkk
 clear hkk
 have H := yH h
 clear h
 go_enter Tryz.func173, Tryz.ntmps173
 go_upto_region 1 with (first
  | ((with_reducible show wpList _ _ _ (_ :: _) _ _); refine wpl_box rfl 138 (.tmp 0) (by rfl) (opC o A c B d).toArray (by rfl) ?_; intro w1 hk hg hz; have K1 := yH hk; have L1 := yH (bl_n (Below.refl _ w) hg); clear hk hg hz; simp only [Act.put, yA, yB, yC]))
 obtain ⟨c0, c1, c2, c3, c4, c5⟩ := op_cells K1.out
 by_cases hp : o.pos = 0
 ·skip
  have ep : (o.pos == 0) = true := beq_iff_eq.2 hp
  by_cases hq : o.n = 0
  ·skip
   have eq : (o.n == 0) = true := beq_iff_eq.2 hq
   by_cases h1 : o.news.length = 0
   ·have el : ((o.news.length : Int) == 0) = true := beq_iff_eq.2 (by omega)
    by_cases h2 : o.puts.length = 0
    ·have em : ((o.puts.length : Int) == 0) = true := beq_iff_eq.2 (by omega)
     by_cases hs : o.snap = 0
     ·skip
      have es : (o.snap == 0) = true := beq_iff_eq.2 hs
      have HR := yH (show rightB o = writeB o by unfold rightB; rw [if_pos HKK.out, decide_eq_true hp, decide_eq_true hq, decide_eq_true hs]; rfl)
      clear hs hp hq h1 h2
      have R1 := yH (show w1.rangeAt w.heap.size 0 (opC o A c B d) by have := K1.out.range; rwa [toArr] at this)
      have HO := yH (H.out.below L1.out)
      go_wp2_with (first | ((with_reducible show wpList _ _ _ (_ :: _) _ _); refine wpl_loadG (by rfl) 138 (.tmp 1) (by rfl) w.heap.size 0 (by rfl) (opC o A c B d) _ R1.out Tryz.underlying138 rfl (opC_info o A c B d) ?_; simp only [Act.put, yA, yB, yC]) | (go_at_call 252; refine (opWrite_any HO.out hn hm).mono ?_; rintro e w3 ⟨rfl, hb⟩; have L3 := yH (below_chain L1.out hb); clear hb))
      go_ret
      exact ⟨by rw [HR.out]; rfl, L3.out⟩
     ·skip
      have es : (o.snap == 0) = false := beq_eq_false_iff_ne.2 hs
      have HR := yH (no_of _ (r1_of HKK.out) (by omega))
      clear hs hp hq h1 h2
      go_wp2_with fail
      go_ret
      exact ⟨by rw [HR.out]; rfl, L1.out⟩
    ·have em : ((o.puts.length : Int) == 0) = false := beq_eq_false_iff_ne.2 (by omega)
     by_cases hs : o.snap = 0
     ·skip
      have es : (o.snap == 0) = true := beq_iff_eq.2 hs
      have HR := yH (show rightB o = writeB o by unfold rightB; rw [if_pos HKK.out, decide_eq_true hp, decide_eq_true hq, decide_eq_true hs]; rfl)
      clear hs hp hq h1 h2
      have R1 := yH (show w1.rangeAt w.heap.size 0 (opC o A c B d) by have := K1.out.range; rwa [toArr] at this)
      have HO := yH (H.out.below L1.out)
      go_wp2_with (first | ((with_reducible show wpList _ _ _ (_ :: _) _ _); refine wpl_loadG (by rfl) 138 (.tmp 1) (by rfl) w.heap.size 0 (by rfl) (opC o A c B d) _ R1.out Tryz.underlying138 rfl (opC_info o A c B d) ?_; simp only [Act.put, yA, yB, yC]) | (go_at_call 252; refine (opWrite_any HO.out hn hm).mono ?_; rintro e w3 ⟨rfl, hb⟩; have L3 := yH (below_chain L1.out hb); clear hb))
      go_ret
      exact ⟨by rw [HR.out]; rfl, L3.out⟩
     ·skip
      have es : (o.snap == 0) = false := beq_eq_false_iff_ne.2 hs
      have HR := yH (no_of _ (r1_of HKK.out) (by omega))
      clear hs hp hq h1 h2
      go_wp2_with fail
      go_ret
      exact ⟨by rw [HR.out]; rfl, L1.out⟩
   ·have el : ((o.news.length : Int) == 0) = false := beq_eq_false_iff_ne.2 (by omega)
    by_cases hs : o.snap = 0
    ·skip
     have es : (o.snap == 0) = true := beq_iff_eq.2 hs
     have HR := yH (show rightB o = writeB o by unfold rightB; rw [if_pos HKK.out, decide_eq_true hp, decide_eq_true hq, decide_eq_true hs]; rfl)
     clear hs hp hq h1
     have R1 := yH (show w1.rangeAt w.heap.size 0 (opC o A c B d) by have := K1.out.range; rwa [toArr] at this)
     have HO := yH (H.out.below L1.out)
     go_wp2_with (first | ((with_reducible show wpList _ _ _ (_ :: _) _ _); refine wpl_loadG (by rfl) 138 (.tmp 1) (by rfl) w.heap.size 0 (by rfl) (opC o A c B d) _ R1.out Tryz.underlying138 rfl (opC_info o A c B d) ?_; simp only [Act.put, yA, yB, yC]) | (go_at_call 252; refine (opWrite_any HO.out hn hm).mono ?_; rintro e w3 ⟨rfl, hb⟩; have L3 := yH (below_chain L1.out hb); clear hb))
     go_ret
     exact ⟨by rw [HR.out]; rfl, L3.out⟩
    ·skip
     have es : (o.snap == 0) = false := beq_eq_false_iff_ne.2 hs
     have HR := yH (no_of _ (r1_of HKK.out) (by omega))
     clear hs hp hq h1
     go_wp2_with fail
     go_ret
     exact ⟨by rw [HR.out]; rfl, L1.out⟩
  ·skip
   have eq : (o.n == 0) = false := beq_eq_false_iff_ne.2 hq
   by_cases h1 : o.news.length = 0
   ·have el : ((o.news.length : Int) == 0) = true := beq_iff_eq.2 (by omega)
    by_cases h2 : o.puts.length = 0
    ·have em : ((o.puts.length : Int) == 0) = true := beq_iff_eq.2 (by omega)
     have HR := yH (no_of _ (r1_of HKK.out) (by omega))
     clear hp hq h1 h2
     go_wp2_with fail
     go_ret
     exact ⟨by rw [HR.out]; rfl, L1.out⟩
    ·have em : ((o.puts.length : Int) == 0) = false := beq_eq_false_iff_ne.2 (by omega)
     have HR := yH (no_of _ (r1_of HKK.out) (by omega))
     clear hp hq h1 h2
     go_wp2_with fail
     go_ret
     exact ⟨by rw [HR.out]; rfl, L1.out⟩
   ·have el : ((o.news.length : Int) == 0) = false := beq_eq_false_iff_ne.2 (by omega)
    have HR := yH (no_of _ (r1_of HKK.out) (by omega))
    clear hp hq h1
    go_wp2_with fail
    go_ret
    exact ⟨by rw [HR.out]; rfl, L1.out⟩
 ·skip
  have ep : (o.pos == 0) = false := beq_eq_false_iff_ne.2 hp
  by_cases h1 : o.news.length = 0
  ·have el : ((o.news.length : Int) == 0) = true := beq_iff_eq.2 (by omega)
   by_cases h2 : o.puts.length = 0
   ·have em : ((o.puts.length : Int) == 0) = true := beq_iff_eq.2 (by omega)
    have HR := yH (no_of _ (r1_of HKK.out) (by omega))
    clear hp h1 h2
    go_wp2_with fail
    go_ret
    exact ⟨by rw [HR.out]; rfl, L1.out⟩
   ·have em : ((o.puts.length : Int) == 0) = false := beq_eq_false_iff_ne.2 (by omega)
    have HR := yH (no_of _ (r1_of HKK.out) (by omega))
    clear hp h1 h2
    go_wp2_with fail
    go_ret
    exact ⟨by rw [HR.out]; rfl, L1.out⟩
  ·have el : ((o.news.length : Int) == 0) = false := beq_eq_false_iff_ne.2 (by omega)
   have HR := yH (no_of _ (r1_of HKK.out) (by omega))
   clear hp h1
   go_wp2_with fail
   go_ret
   exact ⟨by rw [HR.out]; rfl, L1.out⟩
set_option maxRecDepth 100000 in
set_option maxHeartbeats 8000000 in
theorem opr_2 {w : World} {o : OpV} {A : Option Addr} {c : Nat} {B : Option Addr} {d : Nat} (h : OpAt w o A c B d) (hn : o.news.length ≤ 100000000) (hm : o.puts.length ≤ 100000000) (hkk : o.kind = 2) :
  Calls Tryz.prog 173 #[.agg (opC o A c B d).toArray] w (RgPost o w) := by
 have e1 : (o.kind == 1) = false := beq_eq_false_iff_ne.2 (by omega)
 have e2 : (o.kind == 2) = true := beq_iff_eq.2 hkk
 have e3 : (o.kind == 3) = false := beq_eq_false_iff_ne.2 (by omega)
 have e4 : (o.kind == 4) = false := beq_eq_false_iff_ne.2 (by omega)
 have e5 : (o.kind == 5) = false := beq_eq_false_iff_ne.2 (by omega)
 have HI := yH (r2_is hkk)
 obtain ⟨q1, hq1⟩ : ∃ q, q = inB o.pos 0 4096 := ⟨_, rfl⟩
 obtain ⟨q2, hq2⟩ : ∃ q, q = inB o.n 0 4096 := ⟨_, rfl⟩
 have HQ1 := yH hq1
 have HQ2 := yH hq2
 clear hq1 hq2
 clear hkk
 have H := yH h
 clear h
 go_enter Tryz.func173, Tryz.ntmps173
 go_upto_region 1 with (first
  | ((with_reducible show wpList _ _ _ (_ :: _) _ _); refine wpl_box rfl 138 (.tmp 0) (by rfl) (opC o A c B d).toArray (by rfl) ?_; intro w1 hk hg hz; have K1 := yH hk; have L1 := yH (bl_n (Below.refl _ w) hg); clear hk hg hz; simp only [Act.put, yA, yB, yC]))
 obtain ⟨c0, c1, c2, c3, c4, c5⟩ := op_cells K1.out
 by_cases hp : o.pos = 0
 ·skip
  have ep : (o.pos == 0) = true := beq_iff_eq.2 hp
  by_cases hq : o.n = 0
  ·skip
   have eq : (o.n == 0) = true := beq_iff_eq.2 hq
   by_cases h1 : o.news.length = 0
   ·have el : ((o.news.length : Int) == 0) = true := beq_iff_eq.2 (by omega)
    by_cases h2 : o.puts.length = 0
    ·have em : ((o.puts.length : Int) == 0) = true := beq_iff_eq.2 (by omega)
     by_cases hs : o.snap = 0
     ·skip
      have es : (o.snap == 0) = true := beq_iff_eq.2 hs
      have HR := yH (show rightB o = (q1 && q2) by rw [HQ1.out, HQ2.out, Bool.eq_iff_iff, HI.out]; unfold inB; simp only [Bool.and_eq_true, decide_eq_true_eq]; omega)
      clear hs hp hq h1 h2
      cases q1
      ·skip
       go_wp2_with (first | (have _q := T1.out; clear _q; go_at_call 253; refine (ow_is HQ2.out _).mono ?_; rintro e wX ⟨rfl, rfl⟩) | (go_at_call 253; refine (ow_is HQ1.out _).mono ?_; rintro e wX ⟨rfl, rfl⟩; have T1 := yH trivial))
       go_ret
       exact ⟨by rw [HR.out]; rfl, L1.out⟩
      ·skip
       go_wp2_with (first | (have _q := T1.out; clear _q; go_at_call 253; refine (ow_is HQ2.out _).mono ?_; rintro e wX ⟨rfl, rfl⟩) | (go_at_call 253; refine (ow_is HQ1.out _).mono ?_; rintro e wX ⟨rfl, rfl⟩; have T1 := yH trivial))
       go_ret
       exact ⟨by rw [HR.out]; rfl, L1.out⟩
     ·skip
      have es : (o.snap == 0) = false := beq_eq_false_iff_ne.2 hs
      have HR := yH (no_is HI.out (by omega))
      clear hs hp hq h1 h2
      go_wp2_with fail
      go_ret
      exact ⟨by rw [HR.out]; rfl, L1.out⟩
    ·have em : ((o.puts.length : Int) == 0) = false := beq_eq_false_iff_ne.2 (by omega)
     have HR := yH (no_is HI.out (by omega))
     clear hp hq h1 h2
     go_wp2_with fail
     go_ret
     exact ⟨by rw [HR.out]; rfl, L1.out⟩
   ·have el : ((o.news.length : Int) == 0) = false := beq_eq_false_iff_ne.2 (by omega)
    have HR := yH (no_is HI.out (by omega))
    clear hp hq h1
    go_wp2_with fail
    go_ret
    exact ⟨by rw [HR.out]; rfl, L1.out⟩
  ·skip
   have eq : (o.n == 0) = false := beq_eq_false_iff_ne.2 hq
   by_cases h1 : o.news.length = 0
   ·have el : ((o.news.length : Int) == 0) = true := beq_iff_eq.2 (by omega)
    by_cases h2 : o.puts.length = 0
    ·have em : ((o.puts.length : Int) == 0) = true := beq_iff_eq.2 (by omega)
     by_cases hs : o.snap = 0
     ·skip
      have es : (o.snap == 0) = true := beq_iff_eq.2 hs
      have HR := yH (show rightB o = (q1 && q2) by rw [HQ1.out, HQ2.out, Bool.eq_iff_iff, HI.out]; unfold inB; simp only [Bool.and_eq_true, decide_eq_true_eq]; omega)
      clear hs hp hq h1 h2
      cases q1
      ·skip
       go_wp2_with (first | (have _q := T1.out; clear _q; go_at_call 253; refine (ow_is HQ2.out _).mono ?_; rintro e wX ⟨rfl, rfl⟩) | (go_at_call 253; refine (ow_is HQ1.out _).mono ?_; rintro e wX ⟨rfl, rfl⟩; have T1 := yH trivial))
       go_ret
       exact ⟨by rw [HR.out]; rfl, L1.out⟩
      ·skip
       go_wp2_with (first | (have _q := T1.out; clear _q; go_at_call 253; refine (ow_is HQ2.out _).mono ?_; rintro e wX ⟨rfl, rfl⟩) | (go_at_call 253; refine (ow_is HQ1.out _).mono ?_; rintro e wX ⟨rfl, rfl⟩; have T1 := yH trivial))
       go_ret
       exact ⟨by rw [HR.out]; rfl, L1.out⟩
     ·skip
      have es : (o.snap == 0) = false := beq_eq_false_iff_ne.2 hs
      have HR := yH (no_is HI.out (by omega))
      clear hs hp hq h1 h2
      go_wp2_with fail
      go_ret
      exact ⟨by rw [HR.out]; rfl, L1.out⟩
    ·have em : ((o.puts.length : Int) == 0) = false := beq_eq_false_iff_ne.2 (by omega)
     have HR := yH (no_is HI.out (by omega))
     clear hp hq h1 h2
     go_wp2_with fail
     go_ret
     exact ⟨by rw [HR.out]; rfl, L1.out⟩
   ·have el : ((o.news.length : Int) == 0) = false := beq_eq_false_iff_ne.2 (by omega)
    have HR := yH (no_is HI.out (by omega))
    clear hp hq h1
    go_wp2_with fail
    go_ret
    exact ⟨by rw [HR.out]; rfl, L1.out⟩
 ·skip
  have ep : (o.pos == 0) = false := beq_eq_false_iff_ne.2 hp
  by_cases h1 : o.news.length = 0
  ·have el : ((o.news.length : Int) == 0) = true := beq_iff_eq.2 (by omega)
   by_cases h2 : o.puts.length = 0
   ·have em : ((o.puts.length : Int) == 0) = true := beq_iff_eq.2 (by omega)
    by_cases hs : o.snap = 0
    ·skip
     have es : (o.snap == 0) = true := beq_iff_eq.2 hs
     have HR := yH (show rightB o = (q1 && q2) by rw [HQ1.out, HQ2.out, Bool.eq_iff_iff, HI.out]; unfold inB; simp only [Bool.and_eq_true, decide_eq_true_eq]; omega)
     clear hs hp h1 h2
     cases q1
     ·skip
      go_wp2_with (first | (have _q := T1.out; clear _q; go_at_call 253; refine (ow_is HQ2.out _).mono ?_; rintro e wX ⟨rfl, rfl⟩) | (go_at_call 253; refine (ow_is HQ1.out _).mono ?_; rintro e wX ⟨rfl, rfl⟩; have T1 := yH trivial))
      go_ret
      exact ⟨by rw [HR.out]; rfl, L1.out⟩
     ·skip
      go_wp2_with (first | (have _q := T1.out; clear _q; go_at_call 253; refine (ow_is HQ2.out _).mono ?_; rintro e wX ⟨rfl, rfl⟩) | (go_at_call 253; refine (ow_is HQ1.out _).mono ?_; rintro e wX ⟨rfl, rfl⟩; have T1 := yH trivial))
      go_ret
      exact ⟨by rw [HR.out]; rfl, L1.out⟩
    ·skip
     have es : (o.snap == 0) = false := beq_eq_false_iff_ne.2 hs
     have HR := yH (no_is HI.out (by omega))
     clear hs hp h1 h2
     go_wp2_with fail
     go_ret
     exact ⟨by rw [HR.out]; rfl, L1.out⟩
   ·have em : ((o.puts.length : Int) == 0) = false := beq_eq_false_iff_ne.2 (by omega)
    have HR := yH (no_is HI.out (by omega))
    clear hp h1 h2
    go_wp2_with fail
    go_ret
    exact ⟨by rw [HR.out]; rfl, L1.out⟩
  ·have el : ((o.news.length : Int) == 0) = false := beq_eq_false_iff_ne.2 (by omega)
   have HR := yH (no_is HI.out (by omega))
   clear hp h1
   go_wp2_with fail
   go_ret
   exact ⟨by rw [HR.out]; rfl, L1.out⟩
set_option maxRecDepth 100000 in
set_option maxHeartbeats 8000000 in
theorem opr_3 {w : World} {o : OpV} {A : Option Addr} {c : Nat} {B : Option Addr} {d : Nat} (h : OpAt w o A c B d) (hn : o.news.length ≤ 100000000) (hm : o.puts.length ≤ 100000000) (hkk : o.kind = 3) :
  Calls Tryz.prog 173 #[.agg (opC o A c B d).toArray] w (RgPost o w) := by
 have e1 : (o.kind == 1) = false := beq_eq_false_iff_ne.2 (by omega)
 have e2 : (o.kind == 2) = false := beq_eq_false_iff_ne.2 (by omega)
 have e3 : (o.kind == 3) = true := beq_iff_eq.2 hkk
 have e4 : (o.kind == 4) = false := beq_eq_false_iff_ne.2 (by omega)
 have e5 : (o.kind == 5) = false := beq_eq_false_iff_ne.2 (by omega)
 have HI := yH (r3_is (by omega : o.kind = 3 ∨ o.kind = 4 ∨ o.kind = 5))
 obtain ⟨q1, hq1⟩ : ∃ q, q = inB o.snap 1 1073741824 := ⟨_, rfl⟩
 have HQ1 := yH hq1
 clear hq1
 clear hkk
 have H := yH h
 clear h
 go_enter Tryz.func173, Tryz.ntmps173
 go_upto_region 1 with (first
  | ((with_reducible show wpList _ _ _ (_ :: _) _ _); refine wpl_box rfl 138 (.tmp 0) (by rfl) (opC o A c B d).toArray (by rfl) ?_; intro w1 hk hg hz; have K1 := yH hk; have L1 := yH (bl_n (Below.refl _ w) hg); clear hk hg hz; simp only [Act.put, yA, yB, yC]))
 obtain ⟨c0, c1, c2, c3, c4, c5⟩ := op_cells K1.out
 by_cases hp : o.pos = 0
 ·skip
  have ep : (o.pos == 0) = true := beq_iff_eq.2 hp
  by_cases hq : o.n = 0
  ·skip
   have eq : (o.n == 0) = true := beq_iff_eq.2 hq
   by_cases h1 : o.news.length = 0
   ·have el : ((o.news.length : Int) == 0) = true := beq_iff_eq.2 (by omega)
    by_cases h2 : o.puts.length = 0
    ·have em : ((o.puts.length : Int) == 0) = true := beq_iff_eq.2 (by omega)
     have HR := yH (show rightB o = q1 by rw [HQ1.out, Bool.eq_iff_iff, HI.out]; unfold inB; simp only [decide_eq_true_eq]; omega)
     clear hp hq h1 h2
     go_wp2_with (first | (have _q := T1.out; clear _q; go_at_call 253; refine (ow_is HQ2.out _).mono ?_; rintro e wX ⟨rfl, rfl⟩) | (go_at_call 253; refine (ow_is HQ1.out _).mono ?_; rintro e wX ⟨rfl, rfl⟩; have T1 := yH trivial))
     go_ret
     exact ⟨by rw [HR.out]; rfl, L1.out⟩
    ·have em : ((o.puts.length : Int) == 0) = false := beq_eq_false_iff_ne.2 (by omega)
     have HR := yH (no_is HI.out (by omega))
     clear hp hq h1 h2
     go_wp2_with fail
     go_ret
     exact ⟨by rw [HR.out]; rfl, L1.out⟩
   ·have el : ((o.news.length : Int) == 0) = false := beq_eq_false_iff_ne.2 (by omega)
    have HR := yH (no_is HI.out (by omega))
    clear hp hq h1
    go_wp2_with fail
    go_ret
    exact ⟨by rw [HR.out]; rfl, L1.out⟩
  ·skip
   have eq : (o.n == 0) = false := beq_eq_false_iff_ne.2 hq
   by_cases h1 : o.news.length = 0
   ·have el : ((o.news.length : Int) == 0) = true := beq_iff_eq.2 (by omega)
    by_cases h2 : o.puts.length = 0
    ·have em : ((o.puts.length : Int) == 0) = true := beq_iff_eq.2 (by omega)
     have HR := yH (no_is HI.out (by omega))
     clear hp hq h1 h2
     go_wp2_with fail
     go_ret
     exact ⟨by rw [HR.out]; rfl, L1.out⟩
    ·have em : ((o.puts.length : Int) == 0) = false := beq_eq_false_iff_ne.2 (by omega)
     have HR := yH (no_is HI.out (by omega))
     clear hp hq h1 h2
     go_wp2_with fail
     go_ret
     exact ⟨by rw [HR.out]; rfl, L1.out⟩
   ·have el : ((o.news.length : Int) == 0) = false := beq_eq_false_iff_ne.2 (by omega)
    have HR := yH (no_is HI.out (by omega))
    clear hp hq h1
    go_wp2_with fail
    go_ret
    exact ⟨by rw [HR.out]; rfl, L1.out⟩
 ·skip
  have ep : (o.pos == 0) = false := beq_eq_false_iff_ne.2 hp
  by_cases h1 : o.news.length = 0
  ·have el : ((o.news.length : Int) == 0) = true := beq_iff_eq.2 (by omega)
   by_cases h2 : o.puts.length = 0
   ·have em : ((o.puts.length : Int) == 0) = true := beq_iff_eq.2 (by omega)
    have HR := yH (no_is HI.out (by omega))
    clear hp h1 h2
    go_wp2_with fail
    go_ret
    exact ⟨by rw [HR.out]; rfl, L1.out⟩
   ·have em : ((o.puts.length : Int) == 0) = false := beq_eq_false_iff_ne.2 (by omega)
    have HR := yH (no_is HI.out (by omega))
    clear hp h1 h2
    go_wp2_with fail
    go_ret
    exact ⟨by rw [HR.out]; rfl, L1.out⟩
  ·have el : ((o.news.length : Int) == 0) = false := beq_eq_false_iff_ne.2 (by omega)
   have HR := yH (no_is HI.out (by omega))
   clear hp h1
   go_wp2_with fail
   go_ret
   exact ⟨by rw [HR.out]; rfl, L1.out⟩
set_option maxRecDepth 100000 in
set_option maxHeartbeats 8000000 in
theorem opr_4 {w : World} {o : OpV} {A : Option Addr} {c : Nat} {B : Option Addr} {d : Nat} (h : OpAt w o A c B d) (hn : o.news.length ≤ 100000000) (hm : o.puts.length ≤ 100000000) (hkk : o.kind = 4) :
  Calls Tryz.prog 173 #[.agg (opC o A c B d).toArray] w (RgPost o w) := by
 have e1 : (o.kind == 1) = false := beq_eq_false_iff_ne.2 (by omega)
 have e2 : (o.kind == 2) = false := beq_eq_false_iff_ne.2 (by omega)
 have e3 : (o.kind == 3) = false := beq_eq_false_iff_ne.2 (by omega)
 have e4 : (o.kind == 4) = true := beq_iff_eq.2 hkk
 have e5 : (o.kind == 5) = false := beq_eq_false_iff_ne.2 (by omega)
 have HI := yH (r3_is (by omega : o.kind = 3 ∨ o.kind = 4 ∨ o.kind = 5))
 obtain ⟨q1, hq1⟩ : ∃ q, q = inB o.snap 1 1073741824 := ⟨_, rfl⟩
 have HQ1 := yH hq1
 clear hq1
 clear hkk
 have H := yH h
 clear h
 go_enter Tryz.func173, Tryz.ntmps173
 go_upto_region 1 with (first
  | ((with_reducible show wpList _ _ _ (_ :: _) _ _); refine wpl_box rfl 138 (.tmp 0) (by rfl) (opC o A c B d).toArray (by rfl) ?_; intro w1 hk hg hz; have K1 := yH hk; have L1 := yH (bl_n (Below.refl _ w) hg); clear hk hg hz; simp only [Act.put, yA, yB, yC]))
 obtain ⟨c0, c1, c2, c3, c4, c5⟩ := op_cells K1.out
 by_cases hp : o.pos = 0
 ·skip
  have ep : (o.pos == 0) = true := beq_iff_eq.2 hp
  by_cases hq : o.n = 0
  ·skip
   have eq : (o.n == 0) = true := beq_iff_eq.2 hq
   by_cases h1 : o.news.length = 0
   ·have el : ((o.news.length : Int) == 0) = true := beq_iff_eq.2 (by omega)
    by_cases h2 : o.puts.length = 0
    ·have em : ((o.puts.length : Int) == 0) = true := beq_iff_eq.2 (by omega)
     have HR := yH (show rightB o = q1 by rw [HQ1.out, Bool.eq_iff_iff, HI.out]; unfold inB; simp only [decide_eq_true_eq]; omega)
     clear hp hq h1 h2
     go_wp2_with (first | (have _q := T1.out; clear _q; go_at_call 253; refine (ow_is HQ2.out _).mono ?_; rintro e wX ⟨rfl, rfl⟩) | (go_at_call 253; refine (ow_is HQ1.out _).mono ?_; rintro e wX ⟨rfl, rfl⟩; have T1 := yH trivial))
     go_ret
     exact ⟨by rw [HR.out]; rfl, L1.out⟩
    ·have em : ((o.puts.length : Int) == 0) = false := beq_eq_false_iff_ne.2 (by omega)
     have HR := yH (no_is HI.out (by omega))
     clear hp hq h1 h2
     go_wp2_with fail
     go_ret
     exact ⟨by rw [HR.out]; rfl, L1.out⟩
   ·have el : ((o.news.length : Int) == 0) = false := beq_eq_false_iff_ne.2 (by omega)
    have HR := yH (no_is HI.out (by omega))
    clear hp hq h1
    go_wp2_with fail
    go_ret
    exact ⟨by rw [HR.out]; rfl, L1.out⟩
  ·skip
   have eq : (o.n == 0) = false := beq_eq_false_iff_ne.2 hq
   by_cases h1 : o.news.length = 0
   ·have el : ((o.news.length : Int) == 0) = true := beq_iff_eq.2 (by omega)
    by_cases h2 : o.puts.length = 0
    ·have em : ((o.puts.length : Int) == 0) = true := beq_iff_eq.2 (by omega)
     have HR := yH (no_is HI.out (by omega))
     clear hp hq h1 h2
     go_wp2_with fail
     go_ret
     exact ⟨by rw [HR.out]; rfl, L1.out⟩
    ·have em : ((o.puts.length : Int) == 0) = false := beq_eq_false_iff_ne.2 (by omega)
     have HR := yH (no_is HI.out (by omega))
     clear hp hq h1 h2
     go_wp2_with fail
     go_ret
     exact ⟨by rw [HR.out]; rfl, L1.out⟩
   ·have el : ((o.news.length : Int) == 0) = false := beq_eq_false_iff_ne.2 (by omega)
    have HR := yH (no_is HI.out (by omega))
    clear hp hq h1
    go_wp2_with fail
    go_ret
    exact ⟨by rw [HR.out]; rfl, L1.out⟩
 ·skip
  have ep : (o.pos == 0) = false := beq_eq_false_iff_ne.2 hp
  by_cases h1 : o.news.length = 0
  ·have el : ((o.news.length : Int) == 0) = true := beq_iff_eq.2 (by omega)
   by_cases h2 : o.puts.length = 0
   ·have em : ((o.puts.length : Int) == 0) = true := beq_iff_eq.2 (by omega)
    have HR := yH (no_is HI.out (by omega))
    clear hp h1 h2
    go_wp2_with fail
    go_ret
    exact ⟨by rw [HR.out]; rfl, L1.out⟩
   ·have em : ((o.puts.length : Int) == 0) = false := beq_eq_false_iff_ne.2 (by omega)
    have HR := yH (no_is HI.out (by omega))
    clear hp h1 h2
    go_wp2_with fail
    go_ret
    exact ⟨by rw [HR.out]; rfl, L1.out⟩
  ·have el : ((o.news.length : Int) == 0) = false := beq_eq_false_iff_ne.2 (by omega)
   have HR := yH (no_is HI.out (by omega))
   clear hp h1
   go_wp2_with fail
   go_ret
   exact ⟨by rw [HR.out]; rfl, L1.out⟩
set_option maxRecDepth 100000 in
set_option maxHeartbeats 8000000 in
theorem opr_5 {w : World} {o : OpV} {A : Option Addr} {c : Nat} {B : Option Addr} {d : Nat} (h : OpAt w o A c B d) (hn : o.news.length ≤ 100000000) (hm : o.puts.length ≤ 100000000) (hkk : o.kind = 5) :
  Calls Tryz.prog 173 #[.agg (opC o A c B d).toArray] w (RgPost o w) := by
 have e1 : (o.kind == 1) = false := beq_eq_false_iff_ne.2 (by omega)
 have e2 : (o.kind == 2) = false := beq_eq_false_iff_ne.2 (by omega)
 have e3 : (o.kind == 3) = false := beq_eq_false_iff_ne.2 (by omega)
 have e4 : (o.kind == 4) = false := beq_eq_false_iff_ne.2 (by omega)
 have e5 : (o.kind == 5) = true := beq_iff_eq.2 hkk
 have HI := yH (r3_is (by omega : o.kind = 3 ∨ o.kind = 4 ∨ o.kind = 5))
 obtain ⟨q1, hq1⟩ : ∃ q, q = inB o.snap 1 1073741824 := ⟨_, rfl⟩
 have HQ1 := yH hq1
 clear hq1
 clear hkk
 have H := yH h
 clear h
 go_enter Tryz.func173, Tryz.ntmps173
 go_upto_region 1 with (first
  | ((with_reducible show wpList _ _ _ (_ :: _) _ _); refine wpl_box rfl 138 (.tmp 0) (by rfl) (opC o A c B d).toArray (by rfl) ?_; intro w1 hk hg hz; have K1 := yH hk; have L1 := yH (bl_n (Below.refl _ w) hg); clear hk hg hz; simp only [Act.put, yA, yB, yC]))
 obtain ⟨c0, c1, c2, c3, c4, c5⟩ := op_cells K1.out
 by_cases hp : o.pos = 0
 ·skip
  have ep : (o.pos == 0) = true := beq_iff_eq.2 hp
  by_cases hq : o.n = 0
  ·skip
   have eq : (o.n == 0) = true := beq_iff_eq.2 hq
   by_cases h1 : o.news.length = 0
   ·have el : ((o.news.length : Int) == 0) = true := beq_iff_eq.2 (by omega)
    by_cases h2 : o.puts.length = 0
    ·have em : ((o.puts.length : Int) == 0) = true := beq_iff_eq.2 (by omega)
     have HR := yH (show rightB o = q1 by rw [HQ1.out, Bool.eq_iff_iff, HI.out]; unfold inB; simp only [decide_eq_true_eq]; omega)
     clear hp hq h1 h2
     go_wp2_with (first | (have _q := T1.out; clear _q; go_at_call 253; refine (ow_is HQ2.out _).mono ?_; rintro e wX ⟨rfl, rfl⟩) | (go_at_call 253; refine (ow_is HQ1.out _).mono ?_; rintro e wX ⟨rfl, rfl⟩; have T1 := yH trivial))
     go_ret
     exact ⟨by rw [HR.out]; rfl, L1.out⟩
    ·have em : ((o.puts.length : Int) == 0) = false := beq_eq_false_iff_ne.2 (by omega)
     have HR := yH (no_is HI.out (by omega))
     clear hp hq h1 h2
     go_wp2_with fail
     go_ret
     exact ⟨by rw [HR.out]; rfl, L1.out⟩
   ·have el : ((o.news.length : Int) == 0) = false := beq_eq_false_iff_ne.2 (by omega)
    have HR := yH (no_is HI.out (by omega))
    clear hp hq h1
    go_wp2_with fail
    go_ret
    exact ⟨by rw [HR.out]; rfl, L1.out⟩
  ·skip
   have eq : (o.n == 0) = false := beq_eq_false_iff_ne.2 hq
   by_cases h1 : o.news.length = 0
   ·have el : ((o.news.length : Int) == 0) = true := beq_iff_eq.2 (by omega)
    by_cases h2 : o.puts.length = 0
    ·have em : ((o.puts.length : Int) == 0) = true := beq_iff_eq.2 (by omega)
     have HR := yH (no_is HI.out (by omega))
     clear hp hq h1 h2
     go_wp2_with fail
     go_ret
     exact ⟨by rw [HR.out]; rfl, L1.out⟩
    ·have em : ((o.puts.length : Int) == 0) = false := beq_eq_false_iff_ne.2 (by omega)
     have HR := yH (no_is HI.out (by omega))
     clear hp hq h1 h2
     go_wp2_with fail
     go_ret
     exact ⟨by rw [HR.out]; rfl, L1.out⟩
   ·have el : ((o.news.length : Int) == 0) = false := beq_eq_false_iff_ne.2 (by omega)
    have HR := yH (no_is HI.out (by omega))
    clear hp hq h1
    go_wp2_with fail
    go_ret
    exact ⟨by rw [HR.out]; rfl, L1.out⟩
 ·skip
  have ep : (o.pos == 0) = false := beq_eq_false_iff_ne.2 hp
  by_cases h1 : o.news.length = 0
  ·have el : ((o.news.length : Int) == 0) = true := beq_iff_eq.2 (by omega)
   by_cases h2 : o.puts.length = 0
   ·have em : ((o.puts.length : Int) == 0) = true := beq_iff_eq.2 (by omega)
    have HR := yH (no_is HI.out (by omega))
    clear hp h1 h2
    go_wp2_with fail
    go_ret
    exact ⟨by rw [HR.out]; rfl, L1.out⟩
   ·have em : ((o.puts.length : Int) == 0) = false := beq_eq_false_iff_ne.2 (by omega)
    have HR := yH (no_is HI.out (by omega))
    clear hp h1 h2
    go_wp2_with fail
    go_ret
    exact ⟨by rw [HR.out]; rfl, L1.out⟩
  ·have el : ((o.news.length : Int) == 0) = false := beq_eq_false_iff_ne.2 (by omega)
   have HR := yH (no_is HI.out (by omega))
   clear hp h1
   go_wp2_with fail
   go_ret
   exact ⟨by rw [HR.out]; rfl, L1.out⟩
set_option maxRecDepth 100000 in
set_option maxHeartbeats 8000000 in
theorem opr_x {w : World} {o : OpV} {A : Option Addr} {c : Nat} {B : Option Addr} {d : Nat} (h : OpAt w o A c B d) (hn : o.news.length ≤ 100000000) (hm : o.puts.length ≤ 100000000) (hkk : o.kind ≠ 1 ∧ o.kind ≠ 2 ∧ o.kind ≠ 3 ∧ o.kind ≠ 4 ∧ o.kind ≠ 5) :
  Calls Tryz.prog 173 #[.agg (opC o A c B d).toArray] w (RgPost o w) := by
 have e1 : (o.kind == 1) = false := beq_eq_false_iff_ne.2 (by omega)
 have e2 : (o.kind == 2) = false := beq_eq_false_iff_ne.2 (by omega)
 have e3 : (o.kind == 3) = false := beq_eq_false_iff_ne.2 (by omega)
 have e4 : (o.kind == 4) = false := beq_eq_false_iff_ne.2 (by omega)
 have e5 : (o.kind == 5) = false := beq_eq_false_iff_ne.2 (by omega)
 have HX := yH (show rightB o = false by unfold rightB; rw [if_neg (by omega), if_neg (by omega), if_neg (by omega)])
 clear hkk
 have H := yH h
 clear h
 go_enter Tryz.func173, Tryz.ntmps173
 go_upto_region 1 with (first
  | ((with_reducible show wpList _ _ _ (_ :: _) _ _); refine wpl_box rfl 138 (.tmp 0) (by rfl) (opC o A c B d).toArray (by rfl) ?_; intro w1 hk hg hz; have K1 := yH hk; have L1 := yH (bl_n (Below.refl _ w) hg); clear hk hg hz; simp only [Act.put, yA, yB, yC]))
 obtain ⟨c0, c1, c2, c3, c4, c5⟩ := op_cells K1.out
 by_cases hp : o.pos = 0
 ·skip
  have ep : (o.pos == 0) = true := beq_iff_eq.2 hp
  by_cases hq : o.n = 0
  ·skip
   have eq : (o.n == 0) = true := beq_iff_eq.2 hq
   by_cases h1 : o.news.length = 0
   ·have el : ((o.news.length : Int) == 0) = true := beq_iff_eq.2 (by omega)
    by_cases h2 : o.puts.length = 0
    ·have em : ((o.puts.length : Int) == 0) = true := beq_iff_eq.2 (by omega)
     have HR := HX
     clear hp hq h1 h2
     go_wp2_with fail
     go_ret
     exact ⟨by rw [HR.out]; rfl, L1.out⟩
    ·have em : ((o.puts.length : Int) == 0) = false := beq_eq_false_iff_ne.2 (by omega)
     have HR := HX
     clear hp hq h1 h2
     go_wp2_with fail
     go_ret
     exact ⟨by rw [HR.out]; rfl, L1.out⟩
   ·have el : ((o.news.length : Int) == 0) = false := beq_eq_false_iff_ne.2 (by omega)
    have HR := HX
    clear hp hq h1
    go_wp2_with fail
    go_ret
    exact ⟨by rw [HR.out]; rfl, L1.out⟩
  ·skip
   have eq : (o.n == 0) = false := beq_eq_false_iff_ne.2 hq
   by_cases h1 : o.news.length = 0
   ·have el : ((o.news.length : Int) == 0) = true := beq_iff_eq.2 (by omega)
    by_cases h2 : o.puts.length = 0
    ·have em : ((o.puts.length : Int) == 0) = true := beq_iff_eq.2 (by omega)
     have HR := HX
     clear hp hq h1 h2
     go_wp2_with fail
     go_ret
     exact ⟨by rw [HR.out]; rfl, L1.out⟩
    ·have em : ((o.puts.length : Int) == 0) = false := beq_eq_false_iff_ne.2 (by omega)
     have HR := HX
     clear hp hq h1 h2
     go_wp2_with fail
     go_ret
     exact ⟨by rw [HR.out]; rfl, L1.out⟩
   ·have el : ((o.news.length : Int) == 0) = false := beq_eq_false_iff_ne.2 (by omega)
    have HR := HX
    clear hp hq h1
    go_wp2_with fail
    go_ret
    exact ⟨by rw [HR.out]; rfl, L1.out⟩
 ·skip
  have ep : (o.pos == 0) = false := beq_eq_false_iff_ne.2 hp
  by_cases h1 : o.news.length = 0
  ·have el : ((o.news.length : Int) == 0) = true := beq_iff_eq.2 (by omega)
   by_cases h2 : o.puts.length = 0
   ·have em : ((o.puts.length : Int) == 0) = true := beq_iff_eq.2 (by omega)
    have HR := HX
    clear hp h1 h2
    go_wp2_with fail
    go_ret
    exact ⟨by rw [HR.out]; rfl, L1.out⟩
   ·have em : ((o.puts.length : Int) == 0) = false := beq_eq_false_iff_ne.2 (by omega)
    have HR := HX
    clear hp h1 h2
    go_wp2_with fail
    go_ret
    exact ⟨by rw [HR.out]; rfl, L1.out⟩
  ·have el : ((o.news.length : Int) == 0) = false := beq_eq_false_iff_ne.2 (by omega)
   have HR := HX
   clear hp h1
   go_wp2_with fail
   go_ret
   exact ⟨by rw [HR.out]; rfl, L1.out⟩
theorem opRight_any {w : World} {o : OpV} {A : Option Addr} {c : Nat} {B : Option Addr} {d : Nat} (h : OpAt w o A c B d) (hn : o.news.length ≤ 100000000) (hm : o.puts.length ≤ 100000000) :
  Calls Tryz.prog 173 #[.agg (opC o A c B d).toArray] w (RgPost o w) := by
 by_cases k1 : o.kind = 1
 ·exact opr_1 h hn hm k1
 ·by_cases k2 : o.kind = 2
  ·exact opr_2 h hn hm k2
  ·by_cases k3 : o.kind = 3
   ·exact opr_3 h hn hm k3
   ·by_cases k4 : o.kind = 4
    ·exact opr_4 h hn hm k4
    ·by_cases k5 : o.kind = 5
     ·exact opr_5 h hn hm k5
     ·exact opr_x h hn hm ⟨k1, k2, k3, k4, k5⟩
end Go.Proofs.YtffalfacakdhkaaGreatDoor
namespace Go.Proofs.YtffalfacakdhkaaGreatDoor
open Go.RowKit Go.Maps Go.Sort Go.Shelf
set_option linter.unusedVariables false
set_option linter.unusedSimpArgs false

theorem own_lo {w : World} {base base' : Nat} {e : TypeId} {size n : Nat} {v : Value} {xs : List Value} (h : w.ownsRow base' e size v n xs) (hb : base ≤ base') : w.ownsRow base e size v n xs := by
 refine ⟨h.1, h.2.imp id ?_⟩
 rintro ⟨g, cap, cur, e1, a1, r⟩
 exact ⟨g, cap, cur, e1, Nat.le_trans hb a1, r⟩
theorem sortsA (m : Nat) : AnyZI.SortsIn Tryz.prog Tryz.sortedA_ren Fence.wide m :=
 ⟨fun blk off cap ss W hH hblk hsz => callsIn_wide.2 (AnyM.slices_Sort_int Tryz.sortA blk off cap ss W hH hblk hsz),
  fun p cap W => callsIn_wide.2 (AnyM.slices_Sort_int_none Tryz.sortA p cap W)⟩
def sIds (M : SnM) : List Int := (M.map (·.1)).mergeSort leI
theorem sIds_perm (M : SnM) : (sIds M).Perm (M.map (·.1)) := List.mergeSort_perm _ _
theorem sIds_len (M : SnM) : (sIds M).length = M.length := by rw [(sIds_perm M).length_eq, List.length_map]
def IdsPost (M : SnM) (w : World) (e : Ending) (w' : World) : Prop := ∃ v, e = .returned v ∧ w'.ownsRow w.heap.size 3 1 v M.length ((sIds M).map (Value.int .i64)) ∧ (v = .slice none 0 0 ↔ M = []) ∧ Below w.heap.size w w'
set_option maxHeartbeats 1000000 in
theorem ids_any {w : World} {mi bs n : Nat} {f : MpF} {M : SnM} (h : MapsIs w mi bs n f M) (hM : M.length ≤ 1000000) : Calls Tryz.prog 108 #[.pointer (some ⟨mi, 0, none⟩)] w (IdsPost M w) := by
 have c0 := h.s_cell
 obtain ⟨es, hown, hp, hk, hu⟩ := h.map
 have hbl := hown.lt
 have hsize : Maps.size (DataW.map es) = M.length := by rw [Maps.size_eq, hp.length_eq, List.length_map]
 have hkeys : (intKeys (DataW.map es)).Perm (M.map (·.1)) := by
  unfold intKeys
  have := hp.map (fun p : Lit × DataW Value => (intKeys (.map [p])).headD 0)
  rw [List.map_map] at this
  exact this
 have hmax : Maps.size (DataW.map es) ≤ maxLen := by rw [hsize]; unfold maxLen; omega
 have hbytes : Maps.size (DataW.map es) * 8 ≤ 140737488355328 := by rw [hsize]; omega
 refine (callsIn_wide (n := 6)).1 ?_
 have hseq : SeqGives Fence.wide 2 Tryz.prog 264 #[.pointer (some ⟨w.heap.size, 0, none⟩)] encZ (fun ss => ss.Perm (intKeys (DataW.map es))) (Maps.size (DataW.map es)) (w.alloc (.cells #[.map (some bs)] 279)) :=
  AnyZI.keys_gives (ρ := Tryz.keysA_ren) { Tryz.keysA with } Fence.wide _ trivial rfl (by omega) w.heap.size bs _ (DataW.map es) _ (by simp) (by simp) (by
   obtain ⟨es, clock, hb, Ft, hs, hD⟩ := hown
   exact ⟨es, clock, (Below.heap_alloc _ _ bs hbl).trans hb, Ft, hs, hD⟩)
 have cK : ∀ mb W, CallsIn Fence.wide 5 Tryz.prog 183 #[.map mb] W fun e w' => e = .returned (.func (.func 264) #[] #[.pointer (some ⟨W.heap.size, 0, none⟩)]) ∧ w' = W.alloc (.cells #[.map mb] 279) := fun mb W => AnyZI.keys_in Tryz.keysA Fence.wide 5 trivial rfl mb W
 have cS := AnyZI.sorted_in Tryz.sortedA Fence.wide 5 trivial trivial trivial trivial rfl (by omega) (sortsA _) (enters_of Tryz.func263 (by kernel_rfl) rfl) 264 #[.pointer (some ⟨w.heap.size, 0, none⟩)] trivial (enters_of Tryz.func264 (by kernel_rfl) rfl) _ _ hmax hbytes _ hseq
 change CallsIn _ _ Tryz.prog 182 _ _ _ at cS
 have hfK : Fence.wide.fn 183 := trivial
 have hfS : Fence.wide.fn 182 := trivial
 have HS := yH hsize
 have HK := yH hkeys
 have HH := yH h
 clear hsize hkeys hown hp hk hu h hseq hmax hbytes hM hbl
 refine callsIn_of_wp Tryz.func108 rfl trivial ?_ rfl
 simp only [Tryz.ntmps108, List.size_toArray, List.length_cons, List.length_nil, Nat.reduceAdd, Nat.reduceSub, Array.replicate_succ, Array.replicate_zero, List.push_toArray, List.append_toArray, List.nil_append, List.cons_append]
 gi_wp2_with (first
  | (gi_at_call 183; refine (cK _ _).mono ?_; rintro e w' ⟨rfl, rfl⟩)
  | (gi_at_call 182; refine cS.mono ?_; rintro e w' ⟨v, ss, rfl, hS, hrow, hnil, hb⟩; have H1 := yH hS; have H2 := yH hrow; have H3 := yH hnil; have H4 := yH hb; clear hS hrow hnil hb))
 go_ret
 have hP := H1.out.trans HK.out
 have hl : ss.length = M.length := by rw [hP.length_eq, List.length_map]
 have hrow := H2.out
 have e1 : ss.mergeSort (fun x y => decide (x ≤ y)) = sIds M := mergeSort_of_perm_i hP
 rw [e1, hl] at hrow
 refine ⟨v, rfl, own_lo hrow (by simp), ?_, ((Below.refl _ w).alloc (Nat.le_refl _) _).trans (H4.out.mono (by simp))⟩
 rw [H3.out]
 constructor
 ·intro h; rw [h] at hl; exact List.length_eq_zero_iff.1 hl.symm
 ·intro h; rw [h] at hl; exact List.length_eq_zero_iff.1 hl
end Go.Proofs.YtffalfacakdhkaaGreatDoor
