/-
  op: Right: walked.
-/
import Derived.Test.YtgjjdfhoakailaaGreatStO2
namespace Go.Proofs.YtgjjdfhoakailaaGreat
open Go.RowKit Go.Maps Go.Sort Go.Shelf
set_option linter.unusedVariables false
set_option linter.unusedSimpArgs false

structure RgCtx (w w1 : World) (o : OpV) (A : Option Addr) (c : Nat) (B : Option Addr) (d : Nat) : Prop where
  low : Below w.heap.size w w1
  at_ : OpAt w1 o A c B d
  blk : Blk w1 w.heap.size 35 (opC o A c B d).toArray
def RgPost (o : OpV) (w : World) (e : Ending) (w' : World) : Prop := e = .returned (.bool (rightB o)) ∧ Below w.heap.size w w'

set_option maxRecDepth 100000 in
set_option maxHeartbeats 1000000 in
theorem right_100s {w : World} {o : OpV} {A : Option Addr} {c : Nat} {B : Option Addr} {d : Nat} (h : OpAt w o A c B d) (hn : o.news.length ≤ 100000000) (hm : o.puts.length ≤ 100000000) (hp : o.pos = 0) (hq : o.n = 0) (h1 : o.news.length = 0) (h2 : o.puts.length = 0) (hk : o.kind = 1) (hs : o.snap = 0) :
    Calls Tryz.prog 41 #[.agg (opC o A c B d).toArray] w (RgPost o w) := by
  have H := Lib.hid h
  clear h

  have ep : (o.pos == 0) = true := beq_iff_eq.2 hp
  have eq : (o.n == 0) = true := beq_iff_eq.2 hq
  have el : ((o.news.length : Int) == 0) = true := beq_iff_eq.2 (by omega)
  have em : ((o.puts.length : Int) == 0) = true := beq_iff_eq.2 (by omega)
  have es : (o.snap == 0) = true := beq_iff_eq.2 hs
  have e1 : (o.kind == 1) = true := beq_iff_eq.2 hk
  have HR0 := Lib.hid (show rightB o = (decide (o.pos = 0) && decide (o.n = 0) && decide (o.snap = 0) && writeB o) by unfold rightB; rw [if_pos hk])
  clear hk
  have HR := Lib.hid (show rightB o = writeB o by rw [HR0.out]; simp only [decide_eq_true hp, decide_eq_true hq, decide_eq_true h1, decide_eq_true h2, decide_eq_true hs, Bool.true_and])
  clear hp hq h1 h2 hs
  go_enter Tryz.func41, Tryz.ntmps41
  go_upto_region 1 with ((with_reducible show wpList _ _ _ (_ :: _) _ _); refine wpl_box rfl 35 (.tmp 0) rfl _ rfl ?_; intro w1 hk hg hz; have K1 := Lib.hid hk; have G1 := Lib.hid hg; clear hk hg hz)
  have X := Lib.hid (show RgCtx w w1 o A c B d from ⟨bl_n (Below.refl _ _) G1.out, H.out.below (bl_n (Below.refl _ _) G1.out), K1.out⟩)
  have c0 := K1.out.cell (i := 0) (v := .int .u8 o.kind) rfl
  have c1 := K1.out.cell (i := 1) (v := .int .i64 o.pos) rfl
  have c2 := K1.out.cell (i := 2) (v := .int .i64 o.n) rfl
  have c3 := K1.out.cell (i := 3) (v := .int .i64 o.snap) rfl
  have c4 := K1.out.cell (i := 4) (v := .slice A o.news.length c) rfl
  have c5 := K1.out.cell (i := 5) (v := .slice B o.puts.length d) rfl
  clear G1 K1

  have R1 := Lib.hid (show w1.rangeAt w.heap.size 0 (opC o A c B d) by have := X.out.blk.range; rwa [toArr] at this)
  go_wp2_with ((with_reducible show wpList _ _ _ (_ :: _) _ _); refine wpl_loadG (by rfl) 35 (.tmp 1) rfl w.heap.size 0 rfl (opC o A c B d) _ R1.out Tryz.underlying35 rfl (opC_info o A c B d) ?_)
  refine (opWrite_any X.out.at_ hn hm).mono ?_
  rintro e w3 ⟨rfl, hb⟩
  have L3 := Lib.hid (below_chain X.out.low hb)
  clear hb
  go_wp2_with fail
  go_ret
  unfold RgPost
  rw [HR.out]
  exact ⟨rfl, L3.out⟩

set_option maxRecDepth 100000 in
set_option maxHeartbeats 1000000 in
theorem right_100t {w : World} {o : OpV} {A : Option Addr} {c : Nat} {B : Option Addr} {d : Nat} (h : OpAt w o A c B d) (hn : o.news.length ≤ 100000000) (hm : o.puts.length ≤ 100000000) (hp : o.pos = 0) (hq : o.n = 0) (h1 : o.news.length = 0) (h2 : o.puts.length = 0) (hk : o.kind = 1) (hs : o.snap ≠ 0) :
    Calls Tryz.prog 41 #[.agg (opC o A c B d).toArray] w (RgPost o w) := by
  have H := Lib.hid h
  clear h

  have ep : (o.pos == 0) = true := beq_iff_eq.2 hp
  have eq : (o.n == 0) = true := beq_iff_eq.2 hq
  have el : ((o.news.length : Int) == 0) = true := beq_iff_eq.2 (by omega)
  have em : ((o.puts.length : Int) == 0) = true := beq_iff_eq.2 (by omega)
  have es : (o.snap == 0) = false := beq_eq_false_iff_ne.2 hs
  have e1 : (o.kind == 1) = true := beq_iff_eq.2 hk
  have HR0 := Lib.hid (show rightB o = (decide (o.pos = 0) && decide (o.n = 0) && decide (o.snap = 0) && writeB o) by unfold rightB; rw [if_pos hk])
  clear hk
  have HR := Lib.hid (show rightB o = false by rw [HR0.out]; simp only [decide_eq_true hp, decide_eq_true hq, decide_eq_true h1, decide_eq_true h2, decide_eq_false hs, Bool.false_and, Bool.and_false, Bool.true_and])
  clear hp hq h1 h2 hs
  go_enter Tryz.func41, Tryz.ntmps41
  go_upto_region 1 with ((with_reducible show wpList _ _ _ (_ :: _) _ _); refine wpl_box rfl 35 (.tmp 0) rfl _ rfl ?_; intro w1 hk hg hz; have K1 := Lib.hid hk; have G1 := Lib.hid hg; clear hk hg hz)
  have X := Lib.hid (show RgCtx w w1 o A c B d from ⟨bl_n (Below.refl _ _) G1.out, H.out.below (bl_n (Below.refl _ _) G1.out), K1.out⟩)
  have c0 := K1.out.cell (i := 0) (v := .int .u8 o.kind) rfl
  have c1 := K1.out.cell (i := 1) (v := .int .i64 o.pos) rfl
  have c2 := K1.out.cell (i := 2) (v := .int .i64 o.n) rfl
  have c3 := K1.out.cell (i := 3) (v := .int .i64 o.snap) rfl
  have c4 := K1.out.cell (i := 4) (v := .slice A o.news.length c) rfl
  have c5 := K1.out.cell (i := 5) (v := .slice B o.puts.length d) rfl
  clear G1 K1

  go_wp2_with fail
  go_ret
  unfold RgPost
  rw [HR.out]
  exact ⟨rfl, X.out.low⟩

set_option maxRecDepth 100000 in
set_option maxHeartbeats 1000000 in
theorem right_101s {w : World} {o : OpV} {A : Option Addr} {c : Nat} {B : Option Addr} {d : Nat} (h : OpAt w o A c B d) (hn : o.news.length ≤ 100000000) (hm : o.puts.length ≤ 100000000) (hp : o.pos = 0) (hq : o.n = 0) (h1 : o.news.length = 0) (h2 : o.puts.length ≠ 0) (hk : o.kind = 1) (hs : o.snap = 0) :
    Calls Tryz.prog 41 #[.agg (opC o A c B d).toArray] w (RgPost o w) := by
  have H := Lib.hid h
  clear h

  have ep : (o.pos == 0) = true := beq_iff_eq.2 hp
  have eq : (o.n == 0) = true := beq_iff_eq.2 hq
  have el : ((o.news.length : Int) == 0) = true := beq_iff_eq.2 (by omega)
  have em : ((o.puts.length : Int) == 0) = false := beq_eq_false_iff_ne.2 (by omega)
  have es : (o.snap == 0) = true := beq_iff_eq.2 hs
  have e1 : (o.kind == 1) = true := beq_iff_eq.2 hk
  have HR0 := Lib.hid (show rightB o = (decide (o.pos = 0) && decide (o.n = 0) && decide (o.snap = 0) && writeB o) by unfold rightB; rw [if_pos hk])
  clear hk
  have HR := Lib.hid (show rightB o = writeB o by rw [HR0.out]; simp only [decide_eq_true hp, decide_eq_true hq, decide_eq_true h1, decide_eq_false h2, decide_eq_true hs, Bool.true_and])
  clear hp hq h1 h2 hs
  go_enter Tryz.func41, Tryz.ntmps41
  go_upto_region 1 with ((with_reducible show wpList _ _ _ (_ :: _) _ _); refine wpl_box rfl 35 (.tmp 0) rfl _ rfl ?_; intro w1 hk hg hz; have K1 := Lib.hid hk; have G1 := Lib.hid hg; clear hk hg hz)
  have X := Lib.hid (show RgCtx w w1 o A c B d from ⟨bl_n (Below.refl _ _) G1.out, H.out.below (bl_n (Below.refl _ _) G1.out), K1.out⟩)
  have c0 := K1.out.cell (i := 0) (v := .int .u8 o.kind) rfl
  have c1 := K1.out.cell (i := 1) (v := .int .i64 o.pos) rfl
  have c2 := K1.out.cell (i := 2) (v := .int .i64 o.n) rfl
  have c3 := K1.out.cell (i := 3) (v := .int .i64 o.snap) rfl
  have c4 := K1.out.cell (i := 4) (v := .slice A o.news.length c) rfl
  have c5 := K1.out.cell (i := 5) (v := .slice B o.puts.length d) rfl
  clear G1 K1

  have R1 := Lib.hid (show w1.rangeAt w.heap.size 0 (opC o A c B d) by have := X.out.blk.range; rwa [toArr] at this)
  go_wp2_with ((with_reducible show wpList _ _ _ (_ :: _) _ _); refine wpl_loadG (by rfl) 35 (.tmp 1) rfl w.heap.size 0 rfl (opC o A c B d) _ R1.out Tryz.underlying35 rfl (opC_info o A c B d) ?_)
  refine (opWrite_any X.out.at_ hn hm).mono ?_
  rintro e w3 ⟨rfl, hb⟩
  have L3 := Lib.hid (below_chain X.out.low hb)
  clear hb
  go_wp2_with fail
  go_ret
  unfold RgPost
  rw [HR.out]
  exact ⟨rfl, L3.out⟩

set_option maxRecDepth 100000 in
set_option maxHeartbeats 1000000 in
theorem right_101t {w : World} {o : OpV} {A : Option Addr} {c : Nat} {B : Option Addr} {d : Nat} (h : OpAt w o A c B d) (hn : o.news.length ≤ 100000000) (hm : o.puts.length ≤ 100000000) (hp : o.pos = 0) (hq : o.n = 0) (h1 : o.news.length = 0) (h2 : o.puts.length ≠ 0) (hk : o.kind = 1) (hs : o.snap ≠ 0) :
    Calls Tryz.prog 41 #[.agg (opC o A c B d).toArray] w (RgPost o w) := by
  have H := Lib.hid h
  clear h

  have ep : (o.pos == 0) = true := beq_iff_eq.2 hp
  have eq : (o.n == 0) = true := beq_iff_eq.2 hq
  have el : ((o.news.length : Int) == 0) = true := beq_iff_eq.2 (by omega)
  have em : ((o.puts.length : Int) == 0) = false := beq_eq_false_iff_ne.2 (by omega)
  have es : (o.snap == 0) = false := beq_eq_false_iff_ne.2 hs
  have e1 : (o.kind == 1) = true := beq_iff_eq.2 hk
  have HR0 := Lib.hid (show rightB o = (decide (o.pos = 0) && decide (o.n = 0) && decide (o.snap = 0) && writeB o) by unfold rightB; rw [if_pos hk])
  clear hk
  have HR := Lib.hid (show rightB o = false by rw [HR0.out]; simp only [decide_eq_true hp, decide_eq_true hq, decide_eq_true h1, decide_eq_false h2, decide_eq_false hs, Bool.false_and, Bool.and_false, Bool.true_and])
  clear hp hq h1 h2 hs
  go_enter Tryz.func41, Tryz.ntmps41
  go_upto_region 1 with ((with_reducible show wpList _ _ _ (_ :: _) _ _); refine wpl_box rfl 35 (.tmp 0) rfl _ rfl ?_; intro w1 hk hg hz; have K1 := Lib.hid hk; have G1 := Lib.hid hg; clear hk hg hz)
  have X := Lib.hid (show RgCtx w w1 o A c B d from ⟨bl_n (Below.refl _ _) G1.out, H.out.below (bl_n (Below.refl _ _) G1.out), K1.out⟩)
  have c0 := K1.out.cell (i := 0) (v := .int .u8 o.kind) rfl
  have c1 := K1.out.cell (i := 1) (v := .int .i64 o.pos) rfl
  have c2 := K1.out.cell (i := 2) (v := .int .i64 o.n) rfl
  have c3 := K1.out.cell (i := 3) (v := .int .i64 o.snap) rfl
  have c4 := K1.out.cell (i := 4) (v := .slice A o.news.length c) rfl
  have c5 := K1.out.cell (i := 5) (v := .slice B o.puts.length d) rfl
  clear G1 K1

  go_wp2_with fail
  go_ret
  unfold RgPost
  rw [HR.out]
  exact ⟨rfl, X.out.low⟩

set_option maxRecDepth 100000 in
set_option maxHeartbeats 1000000 in
theorem right_102s {w : World} {o : OpV} {A : Option Addr} {c : Nat} {B : Option Addr} {d : Nat} (h : OpAt w o A c B d) (hn : o.news.length ≤ 100000000) (hm : o.puts.length ≤ 100000000) (hp : o.pos = 0) (hq : o.n = 0) (h1 : o.news.length ≠ 0) (hk : o.kind = 1) (hs : o.snap = 0) :
    Calls Tryz.prog 41 #[.agg (opC o A c B d).toArray] w (RgPost o w) := by
  have H := Lib.hid h
  clear h

  have ep : (o.pos == 0) = true := beq_iff_eq.2 hp
  have eq : (o.n == 0) = true := beq_iff_eq.2 hq
  have el : ((o.news.length : Int) == 0) = false := beq_eq_false_iff_ne.2 (by omega)
  have es : (o.snap == 0) = true := beq_iff_eq.2 hs
  have e1 : (o.kind == 1) = true := beq_iff_eq.2 hk
  have HR0 := Lib.hid (show rightB o = (decide (o.pos = 0) && decide (o.n = 0) && decide (o.snap = 0) && writeB o) by unfold rightB; rw [if_pos hk])
  clear hk
  have HR := Lib.hid (show rightB o = writeB o by rw [HR0.out]; simp only [decide_eq_true hp, decide_eq_true hq, decide_eq_false h1, decide_eq_true hs, Bool.true_and])
  clear hp hq h1 hs
  go_enter Tryz.func41, Tryz.ntmps41
  go_upto_region 1 with ((with_reducible show wpList _ _ _ (_ :: _) _ _); refine wpl_box rfl 35 (.tmp 0) rfl _ rfl ?_; intro w1 hk hg hz; have K1 := Lib.hid hk; have G1 := Lib.hid hg; clear hk hg hz)
  have X := Lib.hid (show RgCtx w w1 o A c B d from ⟨bl_n (Below.refl _ _) G1.out, H.out.below (bl_n (Below.refl _ _) G1.out), K1.out⟩)
  have c0 := K1.out.cell (i := 0) (v := .int .u8 o.kind) rfl
  have c1 := K1.out.cell (i := 1) (v := .int .i64 o.pos) rfl
  have c2 := K1.out.cell (i := 2) (v := .int .i64 o.n) rfl
  have c3 := K1.out.cell (i := 3) (v := .int .i64 o.snap) rfl
  have c4 := K1.out.cell (i := 4) (v := .slice A o.news.length c) rfl
  have c5 := K1.out.cell (i := 5) (v := .slice B o.puts.length d) rfl
  clear G1 K1

  have R1 := Lib.hid (show w1.rangeAt w.heap.size 0 (opC o A c B d) by have := X.out.blk.range; rwa [toArr] at this)
  go_wp2_with ((with_reducible show wpList _ _ _ (_ :: _) _ _); refine wpl_loadG (by rfl) 35 (.tmp 1) rfl w.heap.size 0 rfl (opC o A c B d) _ R1.out Tryz.underlying35 rfl (opC_info o A c B d) ?_)
  refine (opWrite_any X.out.at_ hn hm).mono ?_
  rintro e w3 ⟨rfl, hb⟩
  have L3 := Lib.hid (below_chain X.out.low hb)
  clear hb
  go_wp2_with fail
  go_ret
  unfold RgPost
  rw [HR.out]
  exact ⟨rfl, L3.out⟩

set_option maxRecDepth 100000 in
set_option maxHeartbeats 1000000 in
theorem right_102t {w : World} {o : OpV} {A : Option Addr} {c : Nat} {B : Option Addr} {d : Nat} (h : OpAt w o A c B d) (hn : o.news.length ≤ 100000000) (hm : o.puts.length ≤ 100000000) (hp : o.pos = 0) (hq : o.n = 0) (h1 : o.news.length ≠ 0) (hk : o.kind = 1) (hs : o.snap ≠ 0) :
    Calls Tryz.prog 41 #[.agg (opC o A c B d).toArray] w (RgPost o w) := by
  have H := Lib.hid h
  clear h

  have ep : (o.pos == 0) = true := beq_iff_eq.2 hp
  have eq : (o.n == 0) = true := beq_iff_eq.2 hq
  have el : ((o.news.length : Int) == 0) = false := beq_eq_false_iff_ne.2 (by omega)
  have es : (o.snap == 0) = false := beq_eq_false_iff_ne.2 hs
  have e1 : (o.kind == 1) = true := beq_iff_eq.2 hk
  have HR0 := Lib.hid (show rightB o = (decide (o.pos = 0) && decide (o.n = 0) && decide (o.snap = 0) && writeB o) by unfold rightB; rw [if_pos hk])
  clear hk
  have HR := Lib.hid (show rightB o = false by rw [HR0.out]; simp only [decide_eq_true hp, decide_eq_true hq, decide_eq_false h1, decide_eq_false hs, Bool.false_and, Bool.and_false, Bool.true_and])
  clear hp hq h1 hs
  go_enter Tryz.func41, Tryz.ntmps41
  go_upto_region 1 with ((with_reducible show wpList _ _ _ (_ :: _) _ _); refine wpl_box rfl 35 (.tmp 0) rfl _ rfl ?_; intro w1 hk hg hz; have K1 := Lib.hid hk; have G1 := Lib.hid hg; clear hk hg hz)
  have X := Lib.hid (show RgCtx w w1 o A c B d from ⟨bl_n (Below.refl _ _) G1.out, H.out.below (bl_n (Below.refl _ _) G1.out), K1.out⟩)
  have c0 := K1.out.cell (i := 0) (v := .int .u8 o.kind) rfl
  have c1 := K1.out.cell (i := 1) (v := .int .i64 o.pos) rfl
  have c2 := K1.out.cell (i := 2) (v := .int .i64 o.n) rfl
  have c3 := K1.out.cell (i := 3) (v := .int .i64 o.snap) rfl
  have c4 := K1.out.cell (i := 4) (v := .slice A o.news.length c) rfl
  have c5 := K1.out.cell (i := 5) (v := .slice B o.puts.length d) rfl
  clear G1 K1

  go_wp2_with fail
  go_ret
  unfold RgPost
  rw [HR.out]
  exact ⟨rfl, X.out.low⟩

set_option maxRecDepth 100000 in
set_option maxHeartbeats 1000000 in
theorem right_110 {w : World} {o : OpV} {A : Option Addr} {c : Nat} {B : Option Addr} {d : Nat} (h : OpAt w o A c B d) (hn : o.news.length ≤ 100000000) (hm : o.puts.length ≤ 100000000) (hp : o.pos = 0) (hq : o.n ≠ 0) (h1 : o.news.length = 0) (h2 : o.puts.length = 0) (hk : o.kind = 1) :
    Calls Tryz.prog 41 #[.agg (opC o A c B d).toArray] w (RgPost o w) := by
  have H := Lib.hid h
  clear h

  have ep : (o.pos == 0) = true := beq_iff_eq.2 hp
  have eq : (o.n == 0) = false := beq_eq_false_iff_ne.2 hq
  have el : ((o.news.length : Int) == 0) = true := beq_iff_eq.2 (by omega)
  have em : ((o.puts.length : Int) == 0) = true := beq_iff_eq.2 (by omega)
  have e1 : (o.kind == 1) = true := beq_iff_eq.2 hk
  have HR0 := Lib.hid (show rightB o = (decide (o.pos = 0) && decide (o.n = 0) && decide (o.snap = 0) && writeB o) by unfold rightB; rw [if_pos hk])
  clear hk
  have HR := Lib.hid (show rightB o = false by rw [HR0.out]; simp only [decide_eq_true hp, decide_eq_false hq, decide_eq_true h1, decide_eq_true h2, Bool.false_and, Bool.and_false, Bool.true_and])
  clear hp hq h1 h2
  go_enter Tryz.func41, Tryz.ntmps41
  go_upto_region 1 with ((with_reducible show wpList _ _ _ (_ :: _) _ _); refine wpl_box rfl 35 (.tmp 0) rfl _ rfl ?_; intro w1 hk hg hz; have K1 := Lib.hid hk; have G1 := Lib.hid hg; clear hk hg hz)
  have X := Lib.hid (show RgCtx w w1 o A c B d from ⟨bl_n (Below.refl _ _) G1.out, H.out.below (bl_n (Below.refl _ _) G1.out), K1.out⟩)
  have c0 := K1.out.cell (i := 0) (v := .int .u8 o.kind) rfl
  have c1 := K1.out.cell (i := 1) (v := .int .i64 o.pos) rfl
  have c2 := K1.out.cell (i := 2) (v := .int .i64 o.n) rfl
  have c3 := K1.out.cell (i := 3) (v := .int .i64 o.snap) rfl
  have c4 := K1.out.cell (i := 4) (v := .slice A o.news.length c) rfl
  have c5 := K1.out.cell (i := 5) (v := .slice B o.puts.length d) rfl
  clear G1 K1

  go_wp2_with fail
  go_ret
  unfold RgPost
  rw [HR.out]
  exact ⟨rfl, X.out.low⟩

set_option maxRecDepth 100000 in
set_option maxHeartbeats 1000000 in
theorem right_111 {w : World} {o : OpV} {A : Option Addr} {c : Nat} {B : Option Addr} {d : Nat} (h : OpAt w o A c B d) (hn : o.news.length ≤ 100000000) (hm : o.puts.length ≤ 100000000) (hp : o.pos = 0) (hq : o.n ≠ 0) (h1 : o.news.length = 0) (h2 : o.puts.length ≠ 0) (hk : o.kind = 1) :
    Calls Tryz.prog 41 #[.agg (opC o A c B d).toArray] w (RgPost o w) := by
  have H := Lib.hid h
  clear h

  have ep : (o.pos == 0) = true := beq_iff_eq.2 hp
  have eq : (o.n == 0) = false := beq_eq_false_iff_ne.2 hq
  have el : ((o.news.length : Int) == 0) = true := beq_iff_eq.2 (by omega)
  have em : ((o.puts.length : Int) == 0) = false := beq_eq_false_iff_ne.2 (by omega)
  have e1 : (o.kind == 1) = true := beq_iff_eq.2 hk
  have HR0 := Lib.hid (show rightB o = (decide (o.pos = 0) && decide (o.n = 0) && decide (o.snap = 0) && writeB o) by unfold rightB; rw [if_pos hk])
  clear hk
  have HR := Lib.hid (show rightB o = false by rw [HR0.out]; simp only [decide_eq_true hp, decide_eq_false hq, decide_eq_true h1, decide_eq_false h2, Bool.false_and, Bool.and_false, Bool.true_and])
  clear hp hq h1 h2
  go_enter Tryz.func41, Tryz.ntmps41
  go_upto_region 1 with ((with_reducible show wpList _ _ _ (_ :: _) _ _); refine wpl_box rfl 35 (.tmp 0) rfl _ rfl ?_; intro w1 hk hg hz; have K1 := Lib.hid hk; have G1 := Lib.hid hg; clear hk hg hz)
  have X := Lib.hid (show RgCtx w w1 o A c B d from ⟨bl_n (Below.refl _ _) G1.out, H.out.below (bl_n (Below.refl _ _) G1.out), K1.out⟩)
  have c0 := K1.out.cell (i := 0) (v := .int .u8 o.kind) rfl
  have c1 := K1.out.cell (i := 1) (v := .int .i64 o.pos) rfl
  have c2 := K1.out.cell (i := 2) (v := .int .i64 o.n) rfl
  have c3 := K1.out.cell (i := 3) (v := .int .i64 o.snap) rfl
  have c4 := K1.out.cell (i := 4) (v := .slice A o.news.length c) rfl
  have c5 := K1.out.cell (i := 5) (v := .slice B o.puts.length d) rfl
  clear G1 K1

  go_wp2_with fail
  go_ret
  unfold RgPost
  rw [HR.out]
  exact ⟨rfl, X.out.low⟩

set_option maxRecDepth 100000 in
set_option maxHeartbeats 1000000 in
theorem right_112 {w : World} {o : OpV} {A : Option Addr} {c : Nat} {B : Option Addr} {d : Nat} (h : OpAt w o A c B d) (hn : o.news.length ≤ 100000000) (hm : o.puts.length ≤ 100000000) (hp : o.pos = 0) (hq : o.n ≠ 0) (h1 : o.news.length ≠ 0) (hk : o.kind = 1) :
    Calls Tryz.prog 41 #[.agg (opC o A c B d).toArray] w (RgPost o w) := by
  have H := Lib.hid h
  clear h

  have ep : (o.pos == 0) = true := beq_iff_eq.2 hp
  have eq : (o.n == 0) = false := beq_eq_false_iff_ne.2 hq
  have el : ((o.news.length : Int) == 0) = false := beq_eq_false_iff_ne.2 (by omega)
  have e1 : (o.kind == 1) = true := beq_iff_eq.2 hk
  have HR0 := Lib.hid (show rightB o = (decide (o.pos = 0) && decide (o.n = 0) && decide (o.snap = 0) && writeB o) by unfold rightB; rw [if_pos hk])
  clear hk
  have HR := Lib.hid (show rightB o = false by rw [HR0.out]; simp only [decide_eq_true hp, decide_eq_false hq, decide_eq_false h1, Bool.false_and, Bool.and_false, Bool.true_and])
  clear hp hq h1
  go_enter Tryz.func41, Tryz.ntmps41
  go_upto_region 1 with ((with_reducible show wpList _ _ _ (_ :: _) _ _); refine wpl_box rfl 35 (.tmp 0) rfl _ rfl ?_; intro w1 hk hg hz; have K1 := Lib.hid hk; have G1 := Lib.hid hg; clear hk hg hz)
  have X := Lib.hid (show RgCtx w w1 o A c B d from ⟨bl_n (Below.refl _ _) G1.out, H.out.below (bl_n (Below.refl _ _) G1.out), K1.out⟩)
  have c0 := K1.out.cell (i := 0) (v := .int .u8 o.kind) rfl
  have c1 := K1.out.cell (i := 1) (v := .int .i64 o.pos) rfl
  have c2 := K1.out.cell (i := 2) (v := .int .i64 o.n) rfl
  have c3 := K1.out.cell (i := 3) (v := .int .i64 o.snap) rfl
  have c4 := K1.out.cell (i := 4) (v := .slice A o.news.length c) rfl
  have c5 := K1.out.cell (i := 5) (v := .slice B o.puts.length d) rfl
  clear G1 K1

  go_wp2_with fail
  go_ret
  unfold RgPost
  rw [HR.out]
  exact ⟨rfl, X.out.low⟩

set_option maxRecDepth 100000 in
set_option maxHeartbeats 1000000 in
theorem right_120 {w : World} {o : OpV} {A : Option Addr} {c : Nat} {B : Option Addr} {d : Nat} (h : OpAt w o A c B d) (hn : o.news.length ≤ 100000000) (hm : o.puts.length ≤ 100000000) (hp : o.pos ≠ 0) (h1 : o.news.length = 0) (h2 : o.puts.length = 0) (hk : o.kind = 1) :
    Calls Tryz.prog 41 #[.agg (opC o A c B d).toArray] w (RgPost o w) := by
  have H := Lib.hid h
  clear h

  have ep : (o.pos == 0) = false := beq_eq_false_iff_ne.2 hp
  have el : ((o.news.length : Int) == 0) = true := beq_iff_eq.2 (by omega)
  have em : ((o.puts.length : Int) == 0) = true := beq_iff_eq.2 (by omega)
  have e1 : (o.kind == 1) = true := beq_iff_eq.2 hk
  have HR0 := Lib.hid (show rightB o = (decide (o.pos = 0) && decide (o.n = 0) && decide (o.snap = 0) && writeB o) by unfold rightB; rw [if_pos hk])
  clear hk
  have HR := Lib.hid (show rightB o = false by rw [HR0.out]; simp only [decide_eq_false hp, decide_eq_true h1, decide_eq_true h2, Bool.false_and, Bool.and_false, Bool.true_and])
  clear hp h1 h2
  go_enter Tryz.func41, Tryz.ntmps41
  go_upto_region 1 with ((with_reducible show wpList _ _ _ (_ :: _) _ _); refine wpl_box rfl 35 (.tmp 0) rfl _ rfl ?_; intro w1 hk hg hz; have K1 := Lib.hid hk; have G1 := Lib.hid hg; clear hk hg hz)
  have X := Lib.hid (show RgCtx w w1 o A c B d from ⟨bl_n (Below.refl _ _) G1.out, H.out.below (bl_n (Below.refl _ _) G1.out), K1.out⟩)
  have c0 := K1.out.cell (i := 0) (v := .int .u8 o.kind) rfl
  have c1 := K1.out.cell (i := 1) (v := .int .i64 o.pos) rfl
  have c2 := K1.out.cell (i := 2) (v := .int .i64 o.n) rfl
  have c3 := K1.out.cell (i := 3) (v := .int .i64 o.snap) rfl
  have c4 := K1.out.cell (i := 4) (v := .slice A o.news.length c) rfl
  have c5 := K1.out.cell (i := 5) (v := .slice B o.puts.length d) rfl
  clear G1 K1

  go_wp2_with fail
  go_ret
  unfold RgPost
  rw [HR.out]
  exact ⟨rfl, X.out.low⟩

set_option maxRecDepth 100000 in
set_option maxHeartbeats 1000000 in
theorem right_121 {w : World} {o : OpV} {A : Option Addr} {c : Nat} {B : Option Addr} {d : Nat} (h : OpAt w o A c B d) (hn : o.news.length ≤ 100000000) (hm : o.puts.length ≤ 100000000) (hp : o.pos ≠ 0) (h1 : o.news.length = 0) (h2 : o.puts.length ≠ 0) (hk : o.kind = 1) :
    Calls Tryz.prog 41 #[.agg (opC o A c B d).toArray] w (RgPost o w) := by
  have H := Lib.hid h
  clear h

  have ep : (o.pos == 0) = false := beq_eq_false_iff_ne.2 hp
  have el : ((o.news.length : Int) == 0) = true := beq_iff_eq.2 (by omega)
  have em : ((o.puts.length : Int) == 0) = false := beq_eq_false_iff_ne.2 (by omega)
  have e1 : (o.kind == 1) = true := beq_iff_eq.2 hk
  have HR0 := Lib.hid (show rightB o = (decide (o.pos = 0) && decide (o.n = 0) && decide (o.snap = 0) && writeB o) by unfold rightB; rw [if_pos hk])
  clear hk
  have HR := Lib.hid (show rightB o = false by rw [HR0.out]; simp only [decide_eq_false hp, decide_eq_true h1, decide_eq_false h2, Bool.false_and, Bool.and_false, Bool.true_and])
  clear hp h1 h2
  go_enter Tryz.func41, Tryz.ntmps41
  go_upto_region 1 with ((with_reducible show wpList _ _ _ (_ :: _) _ _); refine wpl_box rfl 35 (.tmp 0) rfl _ rfl ?_; intro w1 hk hg hz; have K1 := Lib.hid hk; have G1 := Lib.hid hg; clear hk hg hz)
  have X := Lib.hid (show RgCtx w w1 o A c B d from ⟨bl_n (Below.refl _ _) G1.out, H.out.below (bl_n (Below.refl _ _) G1.out), K1.out⟩)
  have c0 := K1.out.cell (i := 0) (v := .int .u8 o.kind) rfl
  have c1 := K1.out.cell (i := 1) (v := .int .i64 o.pos) rfl
  have c2 := K1.out.cell (i := 2) (v := .int .i64 o.n) rfl
  have c3 := K1.out.cell (i := 3) (v := .int .i64 o.snap) rfl
  have c4 := K1.out.cell (i := 4) (v := .slice A o.news.length c) rfl
  have c5 := K1.out.cell (i := 5) (v := .slice B o.puts.length d) rfl
  clear G1 K1

  go_wp2_with fail
  go_ret
  unfold RgPost
  rw [HR.out]
  exact ⟨rfl, X.out.low⟩

set_option maxRecDepth 100000 in
set_option maxHeartbeats 1000000 in
theorem right_122 {w : World} {o : OpV} {A : Option Addr} {c : Nat} {B : Option Addr} {d : Nat} (h : OpAt w o A c B d) (hn : o.news.length ≤ 100000000) (hm : o.puts.length ≤ 100000000) (hp : o.pos ≠ 0) (h1 : o.news.length ≠ 0) (hk : o.kind = 1) :
    Calls Tryz.prog 41 #[.agg (opC o A c B d).toArray] w (RgPost o w) := by
  have H := Lib.hid h
  clear h

  have ep : (o.pos == 0) = false := beq_eq_false_iff_ne.2 hp
  have el : ((o.news.length : Int) == 0) = false := beq_eq_false_iff_ne.2 (by omega)
  have e1 : (o.kind == 1) = true := beq_iff_eq.2 hk
  have HR0 := Lib.hid (show rightB o = (decide (o.pos = 0) && decide (o.n = 0) && decide (o.snap = 0) && writeB o) by unfold rightB; rw [if_pos hk])
  clear hk
  have HR := Lib.hid (show rightB o = false by rw [HR0.out]; simp only [decide_eq_false hp, decide_eq_false h1, Bool.false_and, Bool.and_false, Bool.true_and])
  clear hp h1
  go_enter Tryz.func41, Tryz.ntmps41
  go_upto_region 1 with ((with_reducible show wpList _ _ _ (_ :: _) _ _); refine wpl_box rfl 35 (.tmp 0) rfl _ rfl ?_; intro w1 hk hg hz; have K1 := Lib.hid hk; have G1 := Lib.hid hg; clear hk hg hz)
  have X := Lib.hid (show RgCtx w w1 o A c B d from ⟨bl_n (Below.refl _ _) G1.out, H.out.below (bl_n (Below.refl _ _) G1.out), K1.out⟩)
  have c0 := K1.out.cell (i := 0) (v := .int .u8 o.kind) rfl
  have c1 := K1.out.cell (i := 1) (v := .int .i64 o.pos) rfl
  have c2 := K1.out.cell (i := 2) (v := .int .i64 o.n) rfl
  have c3 := K1.out.cell (i := 3) (v := .int .i64 o.snap) rfl
  have c4 := K1.out.cell (i := 4) (v := .slice A o.news.length c) rfl
  have c5 := K1.out.cell (i := 5) (v := .slice B o.puts.length d) rfl
  clear G1 K1

  go_wp2_with fail
  go_ret
  unfold RgPost
  rw [HR.out]
  exact ⟨rfl, X.out.low⟩

set_option maxRecDepth 100000 in
set_option maxHeartbeats 1000000 in
theorem right_200s {w : World} {o : OpV} {A : Option Addr} {c : Nat} {B : Option Addr} {d : Nat} (h : OpAt w o A c B d) (hn : o.news.length ≤ 100000000) (hm : o.puts.length ≤ 100000000) (hp : o.pos = 0) (hq : o.n = 0) (h1 : o.news.length = 0) (h2 : o.puts.length = 0) (hk : o.kind = 2) (hs : o.snap = 0) :
    Calls Tryz.prog 41 #[.agg (opC o A c B d).toArray] w (RgPost o w) := by
  have H := Lib.hid h
  clear h

  have ep : (o.pos == 0) = true := beq_iff_eq.2 hp
  have eq : (o.n == 0) = true := beq_iff_eq.2 hq
  have el : ((o.news.length : Int) == 0) = true := beq_iff_eq.2 (by omega)
  have em : ((o.puts.length : Int) == 0) = true := beq_iff_eq.2 (by omega)
  have es : (o.snap == 0) = true := beq_iff_eq.2 hs
  have e1 : (o.kind == 1) = false := beq_eq_false_iff_ne.2 (by omega)
  have e2 : (o.kind == 2) = true := beq_iff_eq.2 hk
  have HR0 := Lib.hid (show rightB o = (decide (o.news.length = 0) && decide (o.puts.length = 0) && decide (o.snap = 0) && inB o.pos 0 4096 && inB o.n 0 4096) by unfold rightB; rw [if_neg (by omega), if_pos hk])
  clear hk
  have HR := Lib.hid (show rightB o = (inB o.pos 0 4096 && inB o.n 0 4096) by rw [HR0.out]; simp only [decide_eq_true hp, decide_eq_true hq, decide_eq_true h1, decide_eq_true h2, decide_eq_true hs, Bool.true_and])
  clear hp hq h1 h2 hs
  go_enter Tryz.func41, Tryz.ntmps41
  go_upto_region 1 with ((with_reducible show wpList _ _ _ (_ :: _) _ _); refine wpl_box rfl 35 (.tmp 0) rfl _ rfl ?_; intro w1 hk hg hz; have K1 := Lib.hid hk; have G1 := Lib.hid hg; clear hk hg hz)
  have X := Lib.hid (show RgCtx w w1 o A c B d from ⟨bl_n (Below.refl _ _) G1.out, H.out.below (bl_n (Below.refl _ _) G1.out), K1.out⟩)
  have c0 := K1.out.cell (i := 0) (v := .int .u8 o.kind) rfl
  have c1 := K1.out.cell (i := 1) (v := .int .i64 o.pos) rfl
  have c2 := K1.out.cell (i := 2) (v := .int .i64 o.n) rfl
  have c3 := K1.out.cell (i := 3) (v := .int .i64 o.snap) rfl
  have c4 := K1.out.cell (i := 4) (v := .slice A o.news.length c) rfl
  have c5 := K1.out.cell (i := 5) (v := .slice B o.puts.length d) rfl
  clear G1 K1

  obtain ⟨b1, h1⟩ : ∃ b, b = inB o.pos 0 4096 := ⟨_, rfl⟩
  obtain ⟨b2, h2⟩ : ∃ b, b = inB o.n 0 4096 := ⟨_, rfl⟩
  have C1 := Lib.hid (fun W => opWithin_any o.pos 0 4096 W)
  have C2 := Lib.hid (fun W => opWithin_any o.n 0 4096 W)
  rw [show decide (0 ≤ o.pos ∧ o.pos ≤ 4096) = b1 from h1.symm] at C1
  rw [show decide (0 ≤ o.n ∧ o.n ≤ 4096) = b2 from h2.symm] at C2
  rw [← h1, ← h2] at HR
  clear h1 h2
  go_wp2_with fail
  refine (C1.out _).mono ?_
  rintro e wq ⟨rfl, rfl⟩
  cases b1
  · go_wp2_with fail
    go_ret
    unfold RgPost
    rw [HR.out]
    exact ⟨rfl, X.out.low⟩
  go_wp2_with fail
  refine (C2.out _).mono ?_
  rintro e wq ⟨rfl, rfl⟩
  go_wp2_with fail
  go_ret
  unfold RgPost
  rw [HR.out]
  exact ⟨rfl, X.out.low⟩

set_option maxRecDepth 100000 in
set_option maxHeartbeats 1000000 in
theorem right_200t {w : World} {o : OpV} {A : Option Addr} {c : Nat} {B : Option Addr} {d : Nat} (h : OpAt w o A c B d) (hn : o.news.length ≤ 100000000) (hm : o.puts.length ≤ 100000000) (hp : o.pos = 0) (hq : o.n = 0) (h1 : o.news.length = 0) (h2 : o.puts.length = 0) (hk : o.kind = 2) (hs : o.snap ≠ 0) :
    Calls Tryz.prog 41 #[.agg (opC o A c B d).toArray] w (RgPost o w) := by
  have H := Lib.hid h
  clear h

  have ep : (o.pos == 0) = true := beq_iff_eq.2 hp
  have eq : (o.n == 0) = true := beq_iff_eq.2 hq
  have el : ((o.news.length : Int) == 0) = true := beq_iff_eq.2 (by omega)
  have em : ((o.puts.length : Int) == 0) = true := beq_iff_eq.2 (by omega)
  have es : (o.snap == 0) = false := beq_eq_false_iff_ne.2 hs
  have e1 : (o.kind == 1) = false := beq_eq_false_iff_ne.2 (by omega)
  have e2 : (o.kind == 2) = true := beq_iff_eq.2 hk
  have HR0 := Lib.hid (show rightB o = (decide (o.news.length = 0) && decide (o.puts.length = 0) && decide (o.snap = 0) && inB o.pos 0 4096 && inB o.n 0 4096) by unfold rightB; rw [if_neg (by omega), if_pos hk])
  clear hk
  have HR := Lib.hid (show rightB o = false by rw [HR0.out]; simp only [decide_eq_true hp, decide_eq_true hq, decide_eq_true h1, decide_eq_true h2, decide_eq_false hs, Bool.false_and, Bool.and_false, Bool.true_and])
  clear hp hq h1 h2 hs
  go_enter Tryz.func41, Tryz.ntmps41
  go_upto_region 1 with ((with_reducible show wpList _ _ _ (_ :: _) _ _); refine wpl_box rfl 35 (.tmp 0) rfl _ rfl ?_; intro w1 hk hg hz; have K1 := Lib.hid hk; have G1 := Lib.hid hg; clear hk hg hz)
  have X := Lib.hid (show RgCtx w w1 o A c B d from ⟨bl_n (Below.refl _ _) G1.out, H.out.below (bl_n (Below.refl _ _) G1.out), K1.out⟩)
  have c0 := K1.out.cell (i := 0) (v := .int .u8 o.kind) rfl
  have c1 := K1.out.cell (i := 1) (v := .int .i64 o.pos) rfl
  have c2 := K1.out.cell (i := 2) (v := .int .i64 o.n) rfl
  have c3 := K1.out.cell (i := 3) (v := .int .i64 o.snap) rfl
  have c4 := K1.out.cell (i := 4) (v := .slice A o.news.length c) rfl
  have c5 := K1.out.cell (i := 5) (v := .slice B o.puts.length d) rfl
  clear G1 K1

  go_wp2_with fail
  go_ret
  unfold RgPost
  rw [HR.out]
  exact ⟨rfl, X.out.low⟩

set_option maxRecDepth 100000 in
set_option maxHeartbeats 1000000 in
theorem right_201 {w : World} {o : OpV} {A : Option Addr} {c : Nat} {B : Option Addr} {d : Nat} (h : OpAt w o A c B d) (hn : o.news.length ≤ 100000000) (hm : o.puts.length ≤ 100000000) (hp : o.pos = 0) (hq : o.n = 0) (h1 : o.news.length = 0) (h2 : o.puts.length ≠ 0) (hk : o.kind = 2) :
    Calls Tryz.prog 41 #[.agg (opC o A c B d).toArray] w (RgPost o w) := by
  have H := Lib.hid h
  clear h

  have ep : (o.pos == 0) = true := beq_iff_eq.2 hp
  have eq : (o.n == 0) = true := beq_iff_eq.2 hq
  have el : ((o.news.length : Int) == 0) = true := beq_iff_eq.2 (by omega)
  have em : ((o.puts.length : Int) == 0) = false := beq_eq_false_iff_ne.2 (by omega)
  have e1 : (o.kind == 1) = false := beq_eq_false_iff_ne.2 (by omega)
  have e2 : (o.kind == 2) = true := beq_iff_eq.2 hk
  have HR0 := Lib.hid (show rightB o = (decide (o.news.length = 0) && decide (o.puts.length = 0) && decide (o.snap = 0) && inB o.pos 0 4096 && inB o.n 0 4096) by unfold rightB; rw [if_neg (by omega), if_pos hk])
  clear hk
  have HR := Lib.hid (show rightB o = false by rw [HR0.out]; simp only [decide_eq_true hp, decide_eq_true hq, decide_eq_true h1, decide_eq_false h2, Bool.false_and, Bool.and_false, Bool.true_and])
  clear hp hq h1 h2
  go_enter Tryz.func41, Tryz.ntmps41
  go_upto_region 1 with ((with_reducible show wpList _ _ _ (_ :: _) _ _); refine wpl_box rfl 35 (.tmp 0) rfl _ rfl ?_; intro w1 hk hg hz; have K1 := Lib.hid hk; have G1 := Lib.hid hg; clear hk hg hz)
  have X := Lib.hid (show RgCtx w w1 o A c B d from ⟨bl_n (Below.refl _ _) G1.out, H.out.below (bl_n (Below.refl _ _) G1.out), K1.out⟩)
  have c0 := K1.out.cell (i := 0) (v := .int .u8 o.kind) rfl
  have c1 := K1.out.cell (i := 1) (v := .int .i64 o.pos) rfl
  have c2 := K1.out.cell (i := 2) (v := .int .i64 o.n) rfl
  have c3 := K1.out.cell (i := 3) (v := .int .i64 o.snap) rfl
  have c4 := K1.out.cell (i := 4) (v := .slice A o.news.length c) rfl
  have c5 := K1.out.cell (i := 5) (v := .slice B o.puts.length d) rfl
  clear G1 K1

  go_wp2_with fail
  go_ret
  unfold RgPost
  rw [HR.out]
  exact ⟨rfl, X.out.low⟩

set_option maxRecDepth 100000 in
set_option maxHeartbeats 1000000 in
theorem right_202 {w : World} {o : OpV} {A : Option Addr} {c : Nat} {B : Option Addr} {d : Nat} (h : OpAt w o A c B d) (hn : o.news.length ≤ 100000000) (hm : o.puts.length ≤ 100000000) (hp : o.pos = 0) (hq : o.n = 0) (h1 : o.news.length ≠ 0) (hk : o.kind = 2) :
    Calls Tryz.prog 41 #[.agg (opC o A c B d).toArray] w (RgPost o w) := by
  have H := Lib.hid h
  clear h

  have ep : (o.pos == 0) = true := beq_iff_eq.2 hp
  have eq : (o.n == 0) = true := beq_iff_eq.2 hq
  have el : ((o.news.length : Int) == 0) = false := beq_eq_false_iff_ne.2 (by omega)
  have e1 : (o.kind == 1) = false := beq_eq_false_iff_ne.2 (by omega)
  have e2 : (o.kind == 2) = true := beq_iff_eq.2 hk
  have HR0 := Lib.hid (show rightB o = (decide (o.news.length = 0) && decide (o.puts.length = 0) && decide (o.snap = 0) && inB o.pos 0 4096 && inB o.n 0 4096) by unfold rightB; rw [if_neg (by omega), if_pos hk])
  clear hk
  have HR := Lib.hid (show rightB o = false by rw [HR0.out]; simp only [decide_eq_true hp, decide_eq_true hq, decide_eq_false h1, Bool.false_and, Bool.and_false, Bool.true_and])
  clear hp hq h1
  go_enter Tryz.func41, Tryz.ntmps41
  go_upto_region 1 with ((with_reducible show wpList _ _ _ (_ :: _) _ _); refine wpl_box rfl 35 (.tmp 0) rfl _ rfl ?_; intro w1 hk hg hz; have K1 := Lib.hid hk; have G1 := Lib.hid hg; clear hk hg hz)
  have X := Lib.hid (show RgCtx w w1 o A c B d from ⟨bl_n (Below.refl _ _) G1.out, H.out.below (bl_n (Below.refl _ _) G1.out), K1.out⟩)
  have c0 := K1.out.cell (i := 0) (v := .int .u8 o.kind) rfl
  have c1 := K1.out.cell (i := 1) (v := .int .i64 o.pos) rfl
  have c2 := K1.out.cell (i := 2) (v := .int .i64 o.n) rfl
  have c3 := K1.out.cell (i := 3) (v := .int .i64 o.snap) rfl
  have c4 := K1.out.cell (i := 4) (v := .slice A o.news.length c) rfl
  have c5 := K1.out.cell (i := 5) (v := .slice B o.puts.length d) rfl
  clear G1 K1

  go_wp2_with fail
  go_ret
  unfold RgPost
  rw [HR.out]
  exact ⟨rfl, X.out.low⟩

set_option maxRecDepth 100000 in
set_option maxHeartbeats 1000000 in
theorem right_210s {w : World} {o : OpV} {A : Option Addr} {c : Nat} {B : Option Addr} {d : Nat} (h : OpAt w o A c B d) (hn : o.news.length ≤ 100000000) (hm : o.puts.length ≤ 100000000) (hp : o.pos = 0) (hq : o.n ≠ 0) (h1 : o.news.length = 0) (h2 : o.puts.length = 0) (hk : o.kind = 2) (hs : o.snap = 0) :
    Calls Tryz.prog 41 #[.agg (opC o A c B d).toArray] w (RgPost o w) := by
  have H := Lib.hid h
  clear h

  have ep : (o.pos == 0) = true := beq_iff_eq.2 hp
  have eq : (o.n == 0) = false := beq_eq_false_iff_ne.2 hq
  have el : ((o.news.length : Int) == 0) = true := beq_iff_eq.2 (by omega)
  have em : ((o.puts.length : Int) == 0) = true := beq_iff_eq.2 (by omega)
  have es : (o.snap == 0) = true := beq_iff_eq.2 hs
  have e1 : (o.kind == 1) = false := beq_eq_false_iff_ne.2 (by omega)
  have e2 : (o.kind == 2) = true := beq_iff_eq.2 hk
  have HR0 := Lib.hid (show rightB o = (decide (o.news.length = 0) && decide (o.puts.length = 0) && decide (o.snap = 0) && inB o.pos 0 4096 && inB o.n 0 4096) by unfold rightB; rw [if_neg (by omega), if_pos hk])
  clear hk
  have HR := Lib.hid (show rightB o = (inB o.pos 0 4096 && inB o.n 0 4096) by rw [HR0.out]; simp only [decide_eq_true hp, decide_eq_false hq, decide_eq_true h1, decide_eq_true h2, decide_eq_true hs, Bool.true_and])
  clear hp hq h1 h2 hs
  go_enter Tryz.func41, Tryz.ntmps41
  go_upto_region 1 with ((with_reducible show wpList _ _ _ (_ :: _) _ _); refine wpl_box rfl 35 (.tmp 0) rfl _ rfl ?_; intro w1 hk hg hz; have K1 := Lib.hid hk; have G1 := Lib.hid hg; clear hk hg hz)
  have X := Lib.hid (show RgCtx w w1 o A c B d from ⟨bl_n (Below.refl _ _) G1.out, H.out.below (bl_n (Below.refl _ _) G1.out), K1.out⟩)
  have c0 := K1.out.cell (i := 0) (v := .int .u8 o.kind) rfl
  have c1 := K1.out.cell (i := 1) (v := .int .i64 o.pos) rfl
  have c2 := K1.out.cell (i := 2) (v := .int .i64 o.n) rfl
  have c3 := K1.out.cell (i := 3) (v := .int .i64 o.snap) rfl
  have c4 := K1.out.cell (i := 4) (v := .slice A o.news.length c) rfl
  have c5 := K1.out.cell (i := 5) (v := .slice B o.puts.length d) rfl
  clear G1 K1

  obtain ⟨b1, h1⟩ : ∃ b, b = inB o.pos 0 4096 := ⟨_, rfl⟩
  obtain ⟨b2, h2⟩ : ∃ b, b = inB o.n 0 4096 := ⟨_, rfl⟩
  have C1 := Lib.hid (fun W => opWithin_any o.pos 0 4096 W)
  have C2 := Lib.hid (fun W => opWithin_any o.n 0 4096 W)
  rw [show decide (0 ≤ o.pos ∧ o.pos ≤ 4096) = b1 from h1.symm] at C1
  rw [show decide (0 ≤ o.n ∧ o.n ≤ 4096) = b2 from h2.symm] at C2
  rw [← h1, ← h2] at HR
  clear h1 h2
  go_wp2_with fail
  refine (C1.out _).mono ?_
  rintro e wq ⟨rfl, rfl⟩
  cases b1
  · go_wp2_with fail
    go_ret
    unfold RgPost
    rw [HR.out]
    exact ⟨rfl, X.out.low⟩
  go_wp2_with fail
  refine (C2.out _).mono ?_
  rintro e wq ⟨rfl, rfl⟩
  go_wp2_with fail
  go_ret
  unfold RgPost
  rw [HR.out]
  exact ⟨rfl, X.out.low⟩

set_option maxRecDepth 100000 in
set_option maxHeartbeats 1000000 in
theorem right_210t {w : World} {o : OpV} {A : Option Addr} {c : Nat} {B : Option Addr} {d : Nat} (h : OpAt w o A c B d) (hn : o.news.length ≤ 100000000) (hm : o.puts.length ≤ 100000000) (hp : o.pos = 0) (hq : o.n ≠ 0) (h1 : o.news.length = 0) (h2 : o.puts.length = 0) (hk : o.kind = 2) (hs : o.snap ≠ 0) :
    Calls Tryz.prog 41 #[.agg (opC o A c B d).toArray] w (RgPost o w) := by
  have H := Lib.hid h
  clear h

  have ep : (o.pos == 0) = true := beq_iff_eq.2 hp
  have eq : (o.n == 0) = false := beq_eq_false_iff_ne.2 hq
  have el : ((o.news.length : Int) == 0) = true := beq_iff_eq.2 (by omega)
  have em : ((o.puts.length : Int) == 0) = true := beq_iff_eq.2 (by omega)
  have es : (o.snap == 0) = false := beq_eq_false_iff_ne.2 hs
  have e1 : (o.kind == 1) = false := beq_eq_false_iff_ne.2 (by omega)
  have e2 : (o.kind == 2) = true := beq_iff_eq.2 hk
  have HR0 := Lib.hid (show rightB o = (decide (o.news.length = 0) && decide (o.puts.length = 0) && decide (o.snap = 0) && inB o.pos 0 4096 && inB o.n 0 4096) by unfold rightB; rw [if_neg (by omega), if_pos hk])
  clear hk
  have HR := Lib.hid (show rightB o = false by rw [HR0.out]; simp only [decide_eq_true hp, decide_eq_false hq, decide_eq_true h1, decide_eq_true h2, decide_eq_false hs, Bool.false_and, Bool.and_false, Bool.true_and])
  clear hp hq h1 h2 hs
  go_enter Tryz.func41, Tryz.ntmps41
  go_upto_region 1 with ((with_reducible show wpList _ _ _ (_ :: _) _ _); refine wpl_box rfl 35 (.tmp 0) rfl _ rfl ?_; intro w1 hk hg hz; have K1 := Lib.hid hk; have G1 := Lib.hid hg; clear hk hg hz)
  have X := Lib.hid (show RgCtx w w1 o A c B d from ⟨bl_n (Below.refl _ _) G1.out, H.out.below (bl_n (Below.refl _ _) G1.out), K1.out⟩)
  have c0 := K1.out.cell (i := 0) (v := .int .u8 o.kind) rfl
  have c1 := K1.out.cell (i := 1) (v := .int .i64 o.pos) rfl
  have c2 := K1.out.cell (i := 2) (v := .int .i64 o.n) rfl
  have c3 := K1.out.cell (i := 3) (v := .int .i64 o.snap) rfl
  have c4 := K1.out.cell (i := 4) (v := .slice A o.news.length c) rfl
  have c5 := K1.out.cell (i := 5) (v := .slice B o.puts.length d) rfl
  clear G1 K1

  go_wp2_with fail
  go_ret
  unfold RgPost
  rw [HR.out]
  exact ⟨rfl, X.out.low⟩

set_option maxRecDepth 100000 in
set_option maxHeartbeats 1000000 in
theorem right_211 {w : World} {o : OpV} {A : Option Addr} {c : Nat} {B : Option Addr} {d : Nat} (h : OpAt w o A c B d) (hn : o.news.length ≤ 100000000) (hm : o.puts.length ≤ 100000000) (hp : o.pos = 0) (hq : o.n ≠ 0) (h1 : o.news.length = 0) (h2 : o.puts.length ≠ 0) (hk : o.kind = 2) :
    Calls Tryz.prog 41 #[.agg (opC o A c B d).toArray] w (RgPost o w) := by
  have H := Lib.hid h
  clear h

  have ep : (o.pos == 0) = true := beq_iff_eq.2 hp
  have eq : (o.n == 0) = false := beq_eq_false_iff_ne.2 hq
  have el : ((o.news.length : Int) == 0) = true := beq_iff_eq.2 (by omega)
  have em : ((o.puts.length : Int) == 0) = false := beq_eq_false_iff_ne.2 (by omega)
  have e1 : (o.kind == 1) = false := beq_eq_false_iff_ne.2 (by omega)
  have e2 : (o.kind == 2) = true := beq_iff_eq.2 hk
  have HR0 := Lib.hid (show rightB o = (decide (o.news.length = 0) && decide (o.puts.length = 0) && decide (o.snap = 0) && inB o.pos 0 4096 && inB o.n 0 4096) by unfold rightB; rw [if_neg (by omega), if_pos hk])
  clear hk
  have HR := Lib.hid (show rightB o = false by rw [HR0.out]; simp only [decide_eq_true hp, decide_eq_false hq, decide_eq_true h1, decide_eq_false h2, Bool.false_and, Bool.and_false, Bool.true_and])
  clear hp hq h1 h2
  go_enter Tryz.func41, Tryz.ntmps41
  go_upto_region 1 with ((with_reducible show wpList _ _ _ (_ :: _) _ _); refine wpl_box rfl 35 (.tmp 0) rfl _ rfl ?_; intro w1 hk hg hz; have K1 := Lib.hid hk; have G1 := Lib.hid hg; clear hk hg hz)
  have X := Lib.hid (show RgCtx w w1 o A c B d from ⟨bl_n (Below.refl _ _) G1.out, H.out.below (bl_n (Below.refl _ _) G1.out), K1.out⟩)
  have c0 := K1.out.cell (i := 0) (v := .int .u8 o.kind) rfl
  have c1 := K1.out.cell (i := 1) (v := .int .i64 o.pos) rfl
  have c2 := K1.out.cell (i := 2) (v := .int .i64 o.n) rfl
  have c3 := K1.out.cell (i := 3) (v := .int .i64 o.snap) rfl
  have c4 := K1.out.cell (i := 4) (v := .slice A o.news.length c) rfl
  have c5 := K1.out.cell (i := 5) (v := .slice B o.puts.length d) rfl
  clear G1 K1

  go_wp2_with fail
  go_ret
  unfold RgPost
  rw [HR.out]
  exact ⟨rfl, X.out.low⟩

set_option maxRecDepth 100000 in
set_option maxHeartbeats 1000000 in
theorem right_212 {w : World} {o : OpV} {A : Option Addr} {c : Nat} {B : Option Addr} {d : Nat} (h : OpAt w o A c B d) (hn : o.news.length ≤ 100000000) (hm : o.puts.length ≤ 100000000) (hp : o.pos = 0) (hq : o.n ≠ 0) (h1 : o.news.length ≠ 0) (hk : o.kind = 2) :
    Calls Tryz.prog 41 #[.agg (opC o A c B d).toArray] w (RgPost o w) := by
  have H := Lib.hid h
  clear h

  have ep : (o.pos == 0) = true := beq_iff_eq.2 hp
  have eq : (o.n == 0) = false := beq_eq_false_iff_ne.2 hq
  have el : ((o.news.length : Int) == 0) = false := beq_eq_false_iff_ne.2 (by omega)
  have e1 : (o.kind == 1) = false := beq_eq_false_iff_ne.2 (by omega)
  have e2 : (o.kind == 2) = true := beq_iff_eq.2 hk
  have HR0 := Lib.hid (show rightB o = (decide (o.news.length = 0) && decide (o.puts.length = 0) && decide (o.snap = 0) && inB o.pos 0 4096 && inB o.n 0 4096) by unfold rightB; rw [if_neg (by omega), if_pos hk])
  clear hk
  have HR := Lib.hid (show rightB o = false by rw [HR0.out]; simp only [decide_eq_true hp, decide_eq_false hq, decide_eq_false h1, Bool.false_and, Bool.and_false, Bool.true_and])
  clear hp hq h1
  go_enter Tryz.func41, Tryz.ntmps41
  go_upto_region 1 with ((with_reducible show wpList _ _ _ (_ :: _) _ _); refine wpl_box rfl 35 (.tmp 0) rfl _ rfl ?_; intro w1 hk hg hz; have K1 := Lib.hid hk; have G1 := Lib.hid hg; clear hk hg hz)
  have X := Lib.hid (show RgCtx w w1 o A c B d from ⟨bl_n (Below.refl _ _) G1.out, H.out.below (bl_n (Below.refl _ _) G1.out), K1.out⟩)
  have c0 := K1.out.cell (i := 0) (v := .int .u8 o.kind) rfl
  have c1 := K1.out.cell (i := 1) (v := .int .i64 o.pos) rfl
  have c2 := K1.out.cell (i := 2) (v := .int .i64 o.n) rfl
  have c3 := K1.out.cell (i := 3) (v := .int .i64 o.snap) rfl
  have c4 := K1.out.cell (i := 4) (v := .slice A o.news.length c) rfl
  have c5 := K1.out.cell (i := 5) (v := .slice B o.puts.length d) rfl
  clear G1 K1

  go_wp2_with fail
  go_ret
  unfold RgPost
  rw [HR.out]
  exact ⟨rfl, X.out.low⟩

set_option maxRecDepth 100000 in
set_option maxHeartbeats 1000000 in
theorem right_220s {w : World} {o : OpV} {A : Option Addr} {c : Nat} {B : Option Addr} {d : Nat} (h : OpAt w o A c B d) (hn : o.news.length ≤ 100000000) (hm : o.puts.length ≤ 100000000) (hp : o.pos ≠ 0) (h1 : o.news.length = 0) (h2 : o.puts.length = 0) (hk : o.kind = 2) (hs : o.snap = 0) :
    Calls Tryz.prog 41 #[.agg (opC o A c B d).toArray] w (RgPost o w) := by
  have H := Lib.hid h
  clear h

  have ep : (o.pos == 0) = false := beq_eq_false_iff_ne.2 hp
  have el : ((o.news.length : Int) == 0) = true := beq_iff_eq.2 (by omega)
  have em : ((o.puts.length : Int) == 0) = true := beq_iff_eq.2 (by omega)
  have es : (o.snap == 0) = true := beq_iff_eq.2 hs
  have e1 : (o.kind == 1) = false := beq_eq_false_iff_ne.2 (by omega)
  have e2 : (o.kind == 2) = true := beq_iff_eq.2 hk
  have HR0 := Lib.hid (show rightB o = (decide (o.news.length = 0) && decide (o.puts.length = 0) && decide (o.snap = 0) && inB o.pos 0 4096 && inB o.n 0 4096) by unfold rightB; rw [if_neg (by omega), if_pos hk])
  clear hk
  have HR := Lib.hid (show rightB o = (inB o.pos 0 4096 && inB o.n 0 4096) by rw [HR0.out]; simp only [decide_eq_false hp, decide_eq_true h1, decide_eq_true h2, decide_eq_true hs, Bool.true_and])
  clear hp h1 h2 hs
  go_enter Tryz.func41, Tryz.ntmps41
  go_upto_region 1 with ((with_reducible show wpList _ _ _ (_ :: _) _ _); refine wpl_box rfl 35 (.tmp 0) rfl _ rfl ?_; intro w1 hk hg hz; have K1 := Lib.hid hk; have G1 := Lib.hid hg; clear hk hg hz)
  have X := Lib.hid (show RgCtx w w1 o A c B d from ⟨bl_n (Below.refl _ _) G1.out, H.out.below (bl_n (Below.refl _ _) G1.out), K1.out⟩)
  have c0 := K1.out.cell (i := 0) (v := .int .u8 o.kind) rfl
  have c1 := K1.out.cell (i := 1) (v := .int .i64 o.pos) rfl
  have c2 := K1.out.cell (i := 2) (v := .int .i64 o.n) rfl
  have c3 := K1.out.cell (i := 3) (v := .int .i64 o.snap) rfl
  have c4 := K1.out.cell (i := 4) (v := .slice A o.news.length c) rfl
  have c5 := K1.out.cell (i := 5) (v := .slice B o.puts.length d) rfl
  clear G1 K1

  obtain ⟨b1, h1⟩ : ∃ b, b = inB o.pos 0 4096 := ⟨_, rfl⟩
  obtain ⟨b2, h2⟩ : ∃ b, b = inB o.n 0 4096 := ⟨_, rfl⟩
  have C1 := Lib.hid (fun W => opWithin_any o.pos 0 4096 W)
  have C2 := Lib.hid (fun W => opWithin_any o.n 0 4096 W)
  rw [show decide (0 ≤ o.pos ∧ o.pos ≤ 4096) = b1 from h1.symm] at C1
  rw [show decide (0 ≤ o.n ∧ o.n ≤ 4096) = b2 from h2.symm] at C2
  rw [← h1, ← h2] at HR
  clear h1 h2
  go_wp2_with fail
  refine (C1.out _).mono ?_
  rintro e wq ⟨rfl, rfl⟩
  cases b1
  · go_wp2_with fail
    go_ret
    unfold RgPost
    rw [HR.out]
    exact ⟨rfl, X.out.low⟩
  go_wp2_with fail
  refine (C2.out _).mono ?_
  rintro e wq ⟨rfl, rfl⟩
  go_wp2_with fail
  go_ret
  unfold RgPost
  rw [HR.out]
  exact ⟨rfl, X.out.low⟩

set_option maxRecDepth 100000 in
set_option maxHeartbeats 1000000 in
theorem right_220t {w : World} {o : OpV} {A : Option Addr} {c : Nat} {B : Option Addr} {d : Nat} (h : OpAt w o A c B d) (hn : o.news.length ≤ 100000000) (hm : o.puts.length ≤ 100000000) (hp : o.pos ≠ 0) (h1 : o.news.length = 0) (h2 : o.puts.length = 0) (hk : o.kind = 2) (hs : o.snap ≠ 0) :
    Calls Tryz.prog 41 #[.agg (opC o A c B d).toArray] w (RgPost o w) := by
  have H := Lib.hid h
  clear h

  have ep : (o.pos == 0) = false := beq_eq_false_iff_ne.2 hp
  have el : ((o.news.length : Int) == 0) = true := beq_iff_eq.2 (by omega)
  have em : ((o.puts.length : Int) == 0) = true := beq_iff_eq.2 (by omega)
  have es : (o.snap == 0) = false := beq_eq_false_iff_ne.2 hs
  have e1 : (o.kind == 1) = false := beq_eq_false_iff_ne.2 (by omega)
  have e2 : (o.kind == 2) = true := beq_iff_eq.2 hk
  have HR0 := Lib.hid (show rightB o = (decide (o.news.length = 0) && decide (o.puts.length = 0) && decide (o.snap = 0) && inB o.pos 0 4096 && inB o.n 0 4096) by unfold rightB; rw [if_neg (by omega), if_pos hk])
  clear hk
  have HR := Lib.hid (show rightB o = false by rw [HR0.out]; simp only [decide_eq_false hp, decide_eq_true h1, decide_eq_true h2, decide_eq_false hs, Bool.false_and, Bool.and_false, Bool.true_and])
  clear hp h1 h2 hs
  go_enter Tryz.func41, Tryz.ntmps41
  go_upto_region 1 with ((with_reducible show wpList _ _ _ (_ :: _) _ _); refine wpl_box rfl 35 (.tmp 0) rfl _ rfl ?_; intro w1 hk hg hz; have K1 := Lib.hid hk; have G1 := Lib.hid hg; clear hk hg hz)
  have X := Lib.hid (show RgCtx w w1 o A c B d from ⟨bl_n (Below.refl _ _) G1.out, H.out.below (bl_n (Below.refl _ _) G1.out), K1.out⟩)
  have c0 := K1.out.cell (i := 0) (v := .int .u8 o.kind) rfl
  have c1 := K1.out.cell (i := 1) (v := .int .i64 o.pos) rfl
  have c2 := K1.out.cell (i := 2) (v := .int .i64 o.n) rfl
  have c3 := K1.out.cell (i := 3) (v := .int .i64 o.snap) rfl
  have c4 := K1.out.cell (i := 4) (v := .slice A o.news.length c) rfl
  have c5 := K1.out.cell (i := 5) (v := .slice B o.puts.length d) rfl
  clear G1 K1

  go_wp2_with fail
  go_ret
  unfold RgPost
  rw [HR.out]
  exact ⟨rfl, X.out.low⟩

set_option maxRecDepth 100000 in
set_option maxHeartbeats 1000000 in
theorem right_221 {w : World} {o : OpV} {A : Option Addr} {c : Nat} {B : Option Addr} {d : Nat} (h : OpAt w o A c B d) (hn : o.news.length ≤ 100000000) (hm : o.puts.length ≤ 100000000) (hp : o.pos ≠ 0) (h1 : o.news.length = 0) (h2 : o.puts.length ≠ 0) (hk : o.kind = 2) :
    Calls Tryz.prog 41 #[.agg (opC o A c B d).toArray] w (RgPost o w) := by
  have H := Lib.hid h
  clear h

  have ep : (o.pos == 0) = false := beq_eq_false_iff_ne.2 hp
  have el : ((o.news.length : Int) == 0) = true := beq_iff_eq.2 (by omega)
  have em : ((o.puts.length : Int) == 0) = false := beq_eq_false_iff_ne.2 (by omega)
  have e1 : (o.kind == 1) = false := beq_eq_false_iff_ne.2 (by omega)
  have e2 : (o.kind == 2) = true := beq_iff_eq.2 hk
  have HR0 := Lib.hid (show rightB o = (decide (o.news.length = 0) && decide (o.puts.length = 0) && decide (o.snap = 0) && inB o.pos 0 4096 && inB o.n 0 4096) by unfold rightB; rw [if_neg (by omega), if_pos hk])
  clear hk
  have HR := Lib.hid (show rightB o = false by rw [HR0.out]; simp only [decide_eq_false hp, decide_eq_true h1, decide_eq_false h2, Bool.false_and, Bool.and_false, Bool.true_and])
  clear hp h1 h2
  go_enter Tryz.func41, Tryz.ntmps41
  go_upto_region 1 with ((with_reducible show wpList _ _ _ (_ :: _) _ _); refine wpl_box rfl 35 (.tmp 0) rfl _ rfl ?_; intro w1 hk hg hz; have K1 := Lib.hid hk; have G1 := Lib.hid hg; clear hk hg hz)
  have X := Lib.hid (show RgCtx w w1 o A c B d from ⟨bl_n (Below.refl _ _) G1.out, H.out.below (bl_n (Below.refl _ _) G1.out), K1.out⟩)
  have c0 := K1.out.cell (i := 0) (v := .int .u8 o.kind) rfl
  have c1 := K1.out.cell (i := 1) (v := .int .i64 o.pos) rfl
  have c2 := K1.out.cell (i := 2) (v := .int .i64 o.n) rfl
  have c3 := K1.out.cell (i := 3) (v := .int .i64 o.snap) rfl
  have c4 := K1.out.cell (i := 4) (v := .slice A o.news.length c) rfl
  have c5 := K1.out.cell (i := 5) (v := .slice B o.puts.length d) rfl
  clear G1 K1

  go_wp2_with fail
  go_ret
  unfold RgPost
  rw [HR.out]
  exact ⟨rfl, X.out.low⟩

set_option maxRecDepth 100000 in
set_option maxHeartbeats 1000000 in
theorem right_222 {w : World} {o : OpV} {A : Option Addr} {c : Nat} {B : Option Addr} {d : Nat} (h : OpAt w o A c B d) (hn : o.news.length ≤ 100000000) (hm : o.puts.length ≤ 100000000) (hp : o.pos ≠ 0) (h1 : o.news.length ≠ 0) (hk : o.kind = 2) :
    Calls Tryz.prog 41 #[.agg (opC o A c B d).toArray] w (RgPost o w) := by
  have H := Lib.hid h
  clear h

  have ep : (o.pos == 0) = false := beq_eq_false_iff_ne.2 hp
  have el : ((o.news.length : Int) == 0) = false := beq_eq_false_iff_ne.2 (by omega)
  have e1 : (o.kind == 1) = false := beq_eq_false_iff_ne.2 (by omega)
  have e2 : (o.kind == 2) = true := beq_iff_eq.2 hk
  have HR0 := Lib.hid (show rightB o = (decide (o.news.length = 0) && decide (o.puts.length = 0) && decide (o.snap = 0) && inB o.pos 0 4096 && inB o.n 0 4096) by unfold rightB; rw [if_neg (by omega), if_pos hk])
  clear hk
  have HR := Lib.hid (show rightB o = false by rw [HR0.out]; simp only [decide_eq_false hp, decide_eq_false h1, Bool.false_and, Bool.and_false, Bool.true_and])
  clear hp h1
  go_enter Tryz.func41, Tryz.ntmps41
  go_upto_region 1 with ((with_reducible show wpList _ _ _ (_ :: _) _ _); refine wpl_box rfl 35 (.tmp 0) rfl _ rfl ?_; intro w1 hk hg hz; have K1 := Lib.hid hk; have G1 := Lib.hid hg; clear hk hg hz)
  have X := Lib.hid (show RgCtx w w1 o A c B d from ⟨bl_n (Below.refl _ _) G1.out, H.out.below (bl_n (Below.refl _ _) G1.out), K1.out⟩)
  have c0 := K1.out.cell (i := 0) (v := .int .u8 o.kind) rfl
  have c1 := K1.out.cell (i := 1) (v := .int .i64 o.pos) rfl
  have c2 := K1.out.cell (i := 2) (v := .int .i64 o.n) rfl
  have c3 := K1.out.cell (i := 3) (v := .int .i64 o.snap) rfl
  have c4 := K1.out.cell (i := 4) (v := .slice A o.news.length c) rfl
  have c5 := K1.out.cell (i := 5) (v := .slice B o.puts.length d) rfl
  clear G1 K1

  go_wp2_with fail
  go_ret
  unfold RgPost
  rw [HR.out]
  exact ⟨rfl, X.out.low⟩

set_option maxRecDepth 100000 in
set_option maxHeartbeats 1000000 in
theorem right_300 {w : World} {o : OpV} {A : Option Addr} {c : Nat} {B : Option Addr} {d : Nat} (h : OpAt w o A c B d) (hn : o.news.length ≤ 100000000) (hm : o.puts.length ≤ 100000000) (hp : o.pos = 0) (hq : o.n = 0) (h1 : o.news.length = 0) (h2 : o.puts.length = 0) (hk : o.kind = 3) :
    Calls Tryz.prog 41 #[.agg (opC o A c B d).toArray] w (RgPost o w) := by
  have H := Lib.hid h
  clear h

  have ep : (o.pos == 0) = true := beq_iff_eq.2 hp
  have eq : (o.n == 0) = true := beq_iff_eq.2 hq
  have el : ((o.news.length : Int) == 0) = true := beq_iff_eq.2 (by omega)
  have em : ((o.puts.length : Int) == 0) = true := beq_iff_eq.2 (by omega)
  have e1 : (o.kind == 1) = false := beq_eq_false_iff_ne.2 (by omega)
  have e2 : (o.kind == 2) = false := beq_eq_false_iff_ne.2 (by omega)
  have e3 : (o.kind == 3) = true := beq_iff_eq.2 hk
  have HR0 := Lib.hid (show rightB o = (decide (o.news.length = 0) && decide (o.puts.length = 0) && decide (o.pos = 0) && decide (o.n = 0) && inB o.snap 1 1073741824) by unfold rightB; rw [if_neg (by omega), if_neg (by omega), if_pos (by omega)])
  clear hk
  have HR := Lib.hid (show rightB o = inB o.snap 1 1073741824 by rw [HR0.out]; simp only [decide_eq_true hp, decide_eq_true hq, decide_eq_true h1, decide_eq_true h2, Bool.true_and])
  clear hp hq h1 h2
  go_enter Tryz.func41, Tryz.ntmps41
  go_upto_region 1 with ((with_reducible show wpList _ _ _ (_ :: _) _ _); refine wpl_box rfl 35 (.tmp 0) rfl _ rfl ?_; intro w1 hk hg hz; have K1 := Lib.hid hk; have G1 := Lib.hid hg; clear hk hg hz)
  have X := Lib.hid (show RgCtx w w1 o A c B d from ⟨bl_n (Below.refl _ _) G1.out, H.out.below (bl_n (Below.refl _ _) G1.out), K1.out⟩)
  have c0 := K1.out.cell (i := 0) (v := .int .u8 o.kind) rfl
  have c1 := K1.out.cell (i := 1) (v := .int .i64 o.pos) rfl
  have c2 := K1.out.cell (i := 2) (v := .int .i64 o.n) rfl
  have c3 := K1.out.cell (i := 3) (v := .int .i64 o.snap) rfl
  have c4 := K1.out.cell (i := 4) (v := .slice A o.news.length c) rfl
  have c5 := K1.out.cell (i := 5) (v := .slice B o.puts.length d) rfl
  clear G1 K1

  obtain ⟨b1, h1⟩ : ∃ b, b = inB o.snap 1 1073741824 := ⟨_, rfl⟩
  have C1 := Lib.hid (fun W => opWithin_any o.snap 1 1073741824 W)
  rw [show decide (1 ≤ o.snap ∧ o.snap ≤ 1073741824) = b1 from h1.symm] at C1
  rw [← h1] at HR
  clear h1
  go_wp2_with fail
  refine (C1.out _).mono ?_
  rintro e wq ⟨rfl, rfl⟩
  go_wp2_with fail
  go_ret
  unfold RgPost
  rw [HR.out]
  exact ⟨rfl, X.out.low⟩

set_option maxRecDepth 100000 in
set_option maxHeartbeats 1000000 in
theorem right_301 {w : World} {o : OpV} {A : Option Addr} {c : Nat} {B : Option Addr} {d : Nat} (h : OpAt w o A c B d) (hn : o.news.length ≤ 100000000) (hm : o.puts.length ≤ 100000000) (hp : o.pos = 0) (hq : o.n = 0) (h1 : o.news.length = 0) (h2 : o.puts.length ≠ 0) (hk : o.kind = 3) :
    Calls Tryz.prog 41 #[.agg (opC o A c B d).toArray] w (RgPost o w) := by
  have H := Lib.hid h
  clear h

  have ep : (o.pos == 0) = true := beq_iff_eq.2 hp
  have eq : (o.n == 0) = true := beq_iff_eq.2 hq
  have el : ((o.news.length : Int) == 0) = true := beq_iff_eq.2 (by omega)
  have em : ((o.puts.length : Int) == 0) = false := beq_eq_false_iff_ne.2 (by omega)
  have e1 : (o.kind == 1) = false := beq_eq_false_iff_ne.2 (by omega)
  have e2 : (o.kind == 2) = false := beq_eq_false_iff_ne.2 (by omega)
  have e3 : (o.kind == 3) = true := beq_iff_eq.2 hk
  have HR0 := Lib.hid (show rightB o = (decide (o.news.length = 0) && decide (o.puts.length = 0) && decide (o.pos = 0) && decide (o.n = 0) && inB o.snap 1 1073741824) by unfold rightB; rw [if_neg (by omega), if_neg (by omega), if_pos (by omega)])
  clear hk
  have HR := Lib.hid (show rightB o = false by rw [HR0.out]; simp only [decide_eq_true hp, decide_eq_true hq, decide_eq_true h1, decide_eq_false h2, Bool.false_and, Bool.and_false, Bool.true_and])
  clear hp hq h1 h2
  go_enter Tryz.func41, Tryz.ntmps41
  go_upto_region 1 with ((with_reducible show wpList _ _ _ (_ :: _) _ _); refine wpl_box rfl 35 (.tmp 0) rfl _ rfl ?_; intro w1 hk hg hz; have K1 := Lib.hid hk; have G1 := Lib.hid hg; clear hk hg hz)
  have X := Lib.hid (show RgCtx w w1 o A c B d from ⟨bl_n (Below.refl _ _) G1.out, H.out.below (bl_n (Below.refl _ _) G1.out), K1.out⟩)
  have c0 := K1.out.cell (i := 0) (v := .int .u8 o.kind) rfl
  have c1 := K1.out.cell (i := 1) (v := .int .i64 o.pos) rfl
  have c2 := K1.out.cell (i := 2) (v := .int .i64 o.n) rfl
  have c3 := K1.out.cell (i := 3) (v := .int .i64 o.snap) rfl
  have c4 := K1.out.cell (i := 4) (v := .slice A o.news.length c) rfl
  have c5 := K1.out.cell (i := 5) (v := .slice B o.puts.length d) rfl
  clear G1 K1

  go_wp2_with fail
  go_ret
  unfold RgPost
  rw [HR.out]
  exact ⟨rfl, X.out.low⟩

set_option maxRecDepth 100000 in
set_option maxHeartbeats 1000000 in
theorem right_302 {w : World} {o : OpV} {A : Option Addr} {c : Nat} {B : Option Addr} {d : Nat} (h : OpAt w o A c B d) (hn : o.news.length ≤ 100000000) (hm : o.puts.length ≤ 100000000) (hp : o.pos = 0) (hq : o.n = 0) (h1 : o.news.length ≠ 0) (hk : o.kind = 3) :
    Calls Tryz.prog 41 #[.agg (opC o A c B d).toArray] w (RgPost o w) := by
  have H := Lib.hid h
  clear h

  have ep : (o.pos == 0) = true := beq_iff_eq.2 hp
  have eq : (o.n == 0) = true := beq_iff_eq.2 hq
  have el : ((o.news.length : Int) == 0) = false := beq_eq_false_iff_ne.2 (by omega)
  have e1 : (o.kind == 1) = false := beq_eq_false_iff_ne.2 (by omega)
  have e2 : (o.kind == 2) = false := beq_eq_false_iff_ne.2 (by omega)
  have e3 : (o.kind == 3) = true := beq_iff_eq.2 hk
  have HR0 := Lib.hid (show rightB o = (decide (o.news.length = 0) && decide (o.puts.length = 0) && decide (o.pos = 0) && decide (o.n = 0) && inB o.snap 1 1073741824) by unfold rightB; rw [if_neg (by omega), if_neg (by omega), if_pos (by omega)])
  clear hk
  have HR := Lib.hid (show rightB o = false by rw [HR0.out]; simp only [decide_eq_true hp, decide_eq_true hq, decide_eq_false h1, Bool.false_and, Bool.and_false, Bool.true_and])
  clear hp hq h1
  go_enter Tryz.func41, Tryz.ntmps41
  go_upto_region 1 with ((with_reducible show wpList _ _ _ (_ :: _) _ _); refine wpl_box rfl 35 (.tmp 0) rfl _ rfl ?_; intro w1 hk hg hz; have K1 := Lib.hid hk; have G1 := Lib.hid hg; clear hk hg hz)
  have X := Lib.hid (show RgCtx w w1 o A c B d from ⟨bl_n (Below.refl _ _) G1.out, H.out.below (bl_n (Below.refl _ _) G1.out), K1.out⟩)
  have c0 := K1.out.cell (i := 0) (v := .int .u8 o.kind) rfl
  have c1 := K1.out.cell (i := 1) (v := .int .i64 o.pos) rfl
  have c2 := K1.out.cell (i := 2) (v := .int .i64 o.n) rfl
  have c3 := K1.out.cell (i := 3) (v := .int .i64 o.snap) rfl
  have c4 := K1.out.cell (i := 4) (v := .slice A o.news.length c) rfl
  have c5 := K1.out.cell (i := 5) (v := .slice B o.puts.length d) rfl
  clear G1 K1

  go_wp2_with fail
  go_ret
  unfold RgPost
  rw [HR.out]
  exact ⟨rfl, X.out.low⟩

set_option maxRecDepth 100000 in
set_option maxHeartbeats 1000000 in
theorem right_310 {w : World} {o : OpV} {A : Option Addr} {c : Nat} {B : Option Addr} {d : Nat} (h : OpAt w o A c B d) (hn : o.news.length ≤ 100000000) (hm : o.puts.length ≤ 100000000) (hp : o.pos = 0) (hq : o.n ≠ 0) (h1 : o.news.length = 0) (h2 : o.puts.length = 0) (hk : o.kind = 3) :
    Calls Tryz.prog 41 #[.agg (opC o A c B d).toArray] w (RgPost o w) := by
  have H := Lib.hid h
  clear h

  have ep : (o.pos == 0) = true := beq_iff_eq.2 hp
  have eq : (o.n == 0) = false := beq_eq_false_iff_ne.2 hq
  have el : ((o.news.length : Int) == 0) = true := beq_iff_eq.2 (by omega)
  have em : ((o.puts.length : Int) == 0) = true := beq_iff_eq.2 (by omega)
  have e1 : (o.kind == 1) = false := beq_eq_false_iff_ne.2 (by omega)
  have e2 : (o.kind == 2) = false := beq_eq_false_iff_ne.2 (by omega)
  have e3 : (o.kind == 3) = true := beq_iff_eq.2 hk
  have HR0 := Lib.hid (show rightB o = (decide (o.news.length = 0) && decide (o.puts.length = 0) && decide (o.pos = 0) && decide (o.n = 0) && inB o.snap 1 1073741824) by unfold rightB; rw [if_neg (by omega), if_neg (by omega), if_pos (by omega)])
  clear hk
  have HR := Lib.hid (show rightB o = false by rw [HR0.out]; simp only [decide_eq_true hp, decide_eq_false hq, decide_eq_true h1, decide_eq_true h2, Bool.false_and, Bool.and_false, Bool.true_and])
  clear hp hq h1 h2
  go_enter Tryz.func41, Tryz.ntmps41
  go_upto_region 1 with ((with_reducible show wpList _ _ _ (_ :: _) _ _); refine wpl_box rfl 35 (.tmp 0) rfl _ rfl ?_; intro w1 hk hg hz; have K1 := Lib.hid hk; have G1 := Lib.hid hg; clear hk hg hz)
  have X := Lib.hid (show RgCtx w w1 o A c B d from ⟨bl_n (Below.refl _ _) G1.out, H.out.below (bl_n (Below.refl _ _) G1.out), K1.out⟩)
  have c0 := K1.out.cell (i := 0) (v := .int .u8 o.kind) rfl
  have c1 := K1.out.cell (i := 1) (v := .int .i64 o.pos) rfl
  have c2 := K1.out.cell (i := 2) (v := .int .i64 o.n) rfl
  have c3 := K1.out.cell (i := 3) (v := .int .i64 o.snap) rfl
  have c4 := K1.out.cell (i := 4) (v := .slice A o.news.length c) rfl
  have c5 := K1.out.cell (i := 5) (v := .slice B o.puts.length d) rfl
  clear G1 K1

  go_wp2_with fail
  go_ret
  unfold RgPost
  rw [HR.out]
  exact ⟨rfl, X.out.low⟩

set_option maxRecDepth 100000 in
set_option maxHeartbeats 1000000 in
theorem right_311 {w : World} {o : OpV} {A : Option Addr} {c : Nat} {B : Option Addr} {d : Nat} (h : OpAt w o A c B d) (hn : o.news.length ≤ 100000000) (hm : o.puts.length ≤ 100000000) (hp : o.pos = 0) (hq : o.n ≠ 0) (h1 : o.news.length = 0) (h2 : o.puts.length ≠ 0) (hk : o.kind = 3) :
    Calls Tryz.prog 41 #[.agg (opC o A c B d).toArray] w (RgPost o w) := by
  have H := Lib.hid h
  clear h

  have ep : (o.pos == 0) = true := beq_iff_eq.2 hp
  have eq : (o.n == 0) = false := beq_eq_false_iff_ne.2 hq
  have el : ((o.news.length : Int) == 0) = true := beq_iff_eq.2 (by omega)
  have em : ((o.puts.length : Int) == 0) = false := beq_eq_false_iff_ne.2 (by omega)
  have e1 : (o.kind == 1) = false := beq_eq_false_iff_ne.2 (by omega)
  have e2 : (o.kind == 2) = false := beq_eq_false_iff_ne.2 (by omega)
  have e3 : (o.kind == 3) = true := beq_iff_eq.2 hk
  have HR0 := Lib.hid (show rightB o = (decide (o.news.length = 0) && decide (o.puts.length = 0) && decide (o.pos = 0) && decide (o.n = 0) && inB o.snap 1 1073741824) by unfold rightB; rw [if_neg (by omega), if_neg (by omega), if_pos (by omega)])
  clear hk
  have HR := Lib.hid (show rightB o = false by rw [HR0.out]; simp only [decide_eq_true hp, decide_eq_false hq, decide_eq_true h1, decide_eq_false h2, Bool.false_and, Bool.and_false, Bool.true_and])
  clear hp hq h1 h2
  go_enter Tryz.func41, Tryz.ntmps41
  go_upto_region 1 with ((with_reducible show wpList _ _ _ (_ :: _) _ _); refine wpl_box rfl 35 (.tmp 0) rfl _ rfl ?_; intro w1 hk hg hz; have K1 := Lib.hid hk; have G1 := Lib.hid hg; clear hk hg hz)
  have X := Lib.hid (show RgCtx w w1 o A c B d from ⟨bl_n (Below.refl _ _) G1.out, H.out.below (bl_n (Below.refl _ _) G1.out), K1.out⟩)
  have c0 := K1.out.cell (i := 0) (v := .int .u8 o.kind) rfl
  have c1 := K1.out.cell (i := 1) (v := .int .i64 o.pos) rfl
  have c2 := K1.out.cell (i := 2) (v := .int .i64 o.n) rfl
  have c3 := K1.out.cell (i := 3) (v := .int .i64 o.snap) rfl
  have c4 := K1.out.cell (i := 4) (v := .slice A o.news.length c) rfl
  have c5 := K1.out.cell (i := 5) (v := .slice B o.puts.length d) rfl
  clear G1 K1

  go_wp2_with fail
  go_ret
  unfold RgPost
  rw [HR.out]
  exact ⟨rfl, X.out.low⟩

set_option maxRecDepth 100000 in
set_option maxHeartbeats 1000000 in
theorem right_312 {w : World} {o : OpV} {A : Option Addr} {c : Nat} {B : Option Addr} {d : Nat} (h : OpAt w o A c B d) (hn : o.news.length ≤ 100000000) (hm : o.puts.length ≤ 100000000) (hp : o.pos = 0) (hq : o.n ≠ 0) (h1 : o.news.length ≠ 0) (hk : o.kind = 3) :
    Calls Tryz.prog 41 #[.agg (opC o A c B d).toArray] w (RgPost o w) := by
  have H := Lib.hid h
  clear h

  have ep : (o.pos == 0) = true := beq_iff_eq.2 hp
  have eq : (o.n == 0) = false := beq_eq_false_iff_ne.2 hq
  have el : ((o.news.length : Int) == 0) = false := beq_eq_false_iff_ne.2 (by omega)
  have e1 : (o.kind == 1) = false := beq_eq_false_iff_ne.2 (by omega)
  have e2 : (o.kind == 2) = false := beq_eq_false_iff_ne.2 (by omega)
  have e3 : (o.kind == 3) = true := beq_iff_eq.2 hk
  have HR0 := Lib.hid (show rightB o = (decide (o.news.length = 0) && decide (o.puts.length = 0) && decide (o.pos = 0) && decide (o.n = 0) && inB o.snap 1 1073741824) by unfold rightB; rw [if_neg (by omega), if_neg (by omega), if_pos (by omega)])
  clear hk
  have HR := Lib.hid (show rightB o = false by rw [HR0.out]; simp only [decide_eq_true hp, decide_eq_false hq, decide_eq_false h1, Bool.false_and, Bool.and_false, Bool.true_and])
  clear hp hq h1
  go_enter Tryz.func41, Tryz.ntmps41
  go_upto_region 1 with ((with_reducible show wpList _ _ _ (_ :: _) _ _); refine wpl_box rfl 35 (.tmp 0) rfl _ rfl ?_; intro w1 hk hg hz; have K1 := Lib.hid hk; have G1 := Lib.hid hg; clear hk hg hz)
  have X := Lib.hid (show RgCtx w w1 o A c B d from ⟨bl_n (Below.refl _ _) G1.out, H.out.below (bl_n (Below.refl _ _) G1.out), K1.out⟩)
  have c0 := K1.out.cell (i := 0) (v := .int .u8 o.kind) rfl
  have c1 := K1.out.cell (i := 1) (v := .int .i64 o.pos) rfl
  have c2 := K1.out.cell (i := 2) (v := .int .i64 o.n) rfl
  have c3 := K1.out.cell (i := 3) (v := .int .i64 o.snap) rfl
  have c4 := K1.out.cell (i := 4) (v := .slice A o.news.length c) rfl
  have c5 := K1.out.cell (i := 5) (v := .slice B o.puts.length d) rfl
  clear G1 K1

  go_wp2_with fail
  go_ret
  unfold RgPost
  rw [HR.out]
  exact ⟨rfl, X.out.low⟩

set_option maxRecDepth 100000 in
set_option maxHeartbeats 1000000 in
theorem right_320 {w : World} {o : OpV} {A : Option Addr} {c : Nat} {B : Option Addr} {d : Nat} (h : OpAt w o A c B d) (hn : o.news.length ≤ 100000000) (hm : o.puts.length ≤ 100000000) (hp : o.pos ≠ 0) (h1 : o.news.length = 0) (h2 : o.puts.length = 0) (hk : o.kind = 3) :
    Calls Tryz.prog 41 #[.agg (opC o A c B d).toArray] w (RgPost o w) := by
  have H := Lib.hid h
  clear h

  have ep : (o.pos == 0) = false := beq_eq_false_iff_ne.2 hp
  have el : ((o.news.length : Int) == 0) = true := beq_iff_eq.2 (by omega)
  have em : ((o.puts.length : Int) == 0) = true := beq_iff_eq.2 (by omega)
  have e1 : (o.kind == 1) = false := beq_eq_false_iff_ne.2 (by omega)
  have e2 : (o.kind == 2) = false := beq_eq_false_iff_ne.2 (by omega)
  have e3 : (o.kind == 3) = true := beq_iff_eq.2 hk
  have HR0 := Lib.hid (show rightB o = (decide (o.news.length = 0) && decide (o.puts.length = 0) && decide (o.pos = 0) && decide (o.n = 0) && inB o.snap 1 1073741824) by unfold rightB; rw [if_neg (by omega), if_neg (by omega), if_pos (by omega)])
  clear hk
  have HR := Lib.hid (show rightB o = false by rw [HR0.out]; simp only [decide_eq_false hp, decide_eq_true h1, decide_eq_true h2, Bool.false_and, Bool.and_false, Bool.true_and])
  clear hp h1 h2
  go_enter Tryz.func41, Tryz.ntmps41
  go_upto_region 1 with ((with_reducible show wpList _ _ _ (_ :: _) _ _); refine wpl_box rfl 35 (.tmp 0) rfl _ rfl ?_; intro w1 hk hg hz; have K1 := Lib.hid hk; have G1 := Lib.hid hg; clear hk hg hz)
  have X := Lib.hid (show RgCtx w w1 o A c B d from ⟨bl_n (Below.refl _ _) G1.out, H.out.below (bl_n (Below.refl _ _) G1.out), K1.out⟩)
  have c0 := K1.out.cell (i := 0) (v := .int .u8 o.kind) rfl
  have c1 := K1.out.cell (i := 1) (v := .int .i64 o.pos) rfl
  have c2 := K1.out.cell (i := 2) (v := .int .i64 o.n) rfl
  have c3 := K1.out.cell (i := 3) (v := .int .i64 o.snap) rfl
  have c4 := K1.out.cell (i := 4) (v := .slice A o.news.length c) rfl
  have c5 := K1.out.cell (i := 5) (v := .slice B o.puts.length d) rfl
  clear G1 K1

  go_wp2_with fail
  go_ret
  unfold RgPost
  rw [HR.out]
  exact ⟨rfl, X.out.low⟩

set_option maxRecDepth 100000 in
set_option maxHeartbeats 1000000 in
theorem right_321 {w : World} {o : OpV} {A : Option Addr} {c : Nat} {B : Option Addr} {d : Nat} (h : OpAt w o A c B d) (hn : o.news.length ≤ 100000000) (hm : o.puts.length ≤ 100000000) (hp : o.pos ≠ 0) (h1 : o.news.length = 0) (h2 : o.puts.length ≠ 0) (hk : o.kind = 3) :
    Calls Tryz.prog 41 #[.agg (opC o A c B d).toArray] w (RgPost o w) := by
  have H := Lib.hid h
  clear h

  have ep : (o.pos == 0) = false := beq_eq_false_iff_ne.2 hp
  have el : ((o.news.length : Int) == 0) = true := beq_iff_eq.2 (by omega)
  have em : ((o.puts.length : Int) == 0) = false := beq_eq_false_iff_ne.2 (by omega)
  have e1 : (o.kind == 1) = false := beq_eq_false_iff_ne.2 (by omega)
  have e2 : (o.kind == 2) = false := beq_eq_false_iff_ne.2 (by omega)
  have e3 : (o.kind == 3) = true := beq_iff_eq.2 hk
  have HR0 := Lib.hid (show rightB o = (decide (o.news.length = 0) && decide (o.puts.length = 0) && decide (o.pos = 0) && decide (o.n = 0) && inB o.snap 1 1073741824) by unfold rightB; rw [if_neg (by omega), if_neg (by omega), if_pos (by omega)])
  clear hk
  have HR := Lib.hid (show rightB o = false by rw [HR0.out]; simp only [decide_eq_false hp, decide_eq_true h1, decide_eq_false h2, Bool.false_and, Bool.and_false, Bool.true_and])
  clear hp h1 h2
  go_enter Tryz.func41, Tryz.ntmps41
  go_upto_region 1 with ((with_reducible show wpList _ _ _ (_ :: _) _ _); refine wpl_box rfl 35 (.tmp 0) rfl _ rfl ?_; intro w1 hk hg hz; have K1 := Lib.hid hk; have G1 := Lib.hid hg; clear hk hg hz)
  have X := Lib.hid (show RgCtx w w1 o A c B d from ⟨bl_n (Below.refl _ _) G1.out, H.out.below (bl_n (Below.refl _ _) G1.out), K1.out⟩)
  have c0 := K1.out.cell (i := 0) (v := .int .u8 o.kind) rfl
  have c1 := K1.out.cell (i := 1) (v := .int .i64 o.pos) rfl
  have c2 := K1.out.cell (i := 2) (v := .int .i64 o.n) rfl
  have c3 := K1.out.cell (i := 3) (v := .int .i64 o.snap) rfl
  have c4 := K1.out.cell (i := 4) (v := .slice A o.news.length c) rfl
  have c5 := K1.out.cell (i := 5) (v := .slice B o.puts.length d) rfl
  clear G1 K1

  go_wp2_with fail
  go_ret
  unfold RgPost
  rw [HR.out]
  exact ⟨rfl, X.out.low⟩

set_option maxRecDepth 100000 in
set_option maxHeartbeats 1000000 in
theorem right_322 {w : World} {o : OpV} {A : Option Addr} {c : Nat} {B : Option Addr} {d : Nat} (h : OpAt w o A c B d) (hn : o.news.length ≤ 100000000) (hm : o.puts.length ≤ 100000000) (hp : o.pos ≠ 0) (h1 : o.news.length ≠ 0) (hk : o.kind = 3) :
    Calls Tryz.prog 41 #[.agg (opC o A c B d).toArray] w (RgPost o w) := by
  have H := Lib.hid h
  clear h

  have ep : (o.pos == 0) = false := beq_eq_false_iff_ne.2 hp
  have el : ((o.news.length : Int) == 0) = false := beq_eq_false_iff_ne.2 (by omega)
  have e1 : (o.kind == 1) = false := beq_eq_false_iff_ne.2 (by omega)
  have e2 : (o.kind == 2) = false := beq_eq_false_iff_ne.2 (by omega)
  have e3 : (o.kind == 3) = true := beq_iff_eq.2 hk
  have HR0 := Lib.hid (show rightB o = (decide (o.news.length = 0) && decide (o.puts.length = 0) && decide (o.pos = 0) && decide (o.n = 0) && inB o.snap 1 1073741824) by unfold rightB; rw [if_neg (by omega), if_neg (by omega), if_pos (by omega)])
  clear hk
  have HR := Lib.hid (show rightB o = false by rw [HR0.out]; simp only [decide_eq_false hp, decide_eq_false h1, Bool.false_and, Bool.and_false, Bool.true_and])
  clear hp h1
  go_enter Tryz.func41, Tryz.ntmps41
  go_upto_region 1 with ((with_reducible show wpList _ _ _ (_ :: _) _ _); refine wpl_box rfl 35 (.tmp 0) rfl _ rfl ?_; intro w1 hk hg hz; have K1 := Lib.hid hk; have G1 := Lib.hid hg; clear hk hg hz)
  have X := Lib.hid (show RgCtx w w1 o A c B d from ⟨bl_n (Below.refl _ _) G1.out, H.out.below (bl_n (Below.refl _ _) G1.out), K1.out⟩)
  have c0 := K1.out.cell (i := 0) (v := .int .u8 o.kind) rfl
  have c1 := K1.out.cell (i := 1) (v := .int .i64 o.pos) rfl
  have c2 := K1.out.cell (i := 2) (v := .int .i64 o.n) rfl
  have c3 := K1.out.cell (i := 3) (v := .int .i64 o.snap) rfl
  have c4 := K1.out.cell (i := 4) (v := .slice A o.news.length c) rfl
  have c5 := K1.out.cell (i := 5) (v := .slice B o.puts.length d) rfl
  clear G1 K1

  go_wp2_with fail
  go_ret
  unfold RgPost
  rw [HR.out]
  exact ⟨rfl, X.out.low⟩

set_option maxRecDepth 100000 in
set_option maxHeartbeats 1000000 in
theorem right_400 {w : World} {o : OpV} {A : Option Addr} {c : Nat} {B : Option Addr} {d : Nat} (h : OpAt w o A c B d) (hn : o.news.length ≤ 100000000) (hm : o.puts.length ≤ 100000000) (hp : o.pos = 0) (hq : o.n = 0) (h1 : o.news.length = 0) (h2 : o.puts.length = 0) (hk : o.kind = 4) :
    Calls Tryz.prog 41 #[.agg (opC o A c B d).toArray] w (RgPost o w) := by
  have H := Lib.hid h
  clear h

  have ep : (o.pos == 0) = true := beq_iff_eq.2 hp
  have eq : (o.n == 0) = true := beq_iff_eq.2 hq
  have el : ((o.news.length : Int) == 0) = true := beq_iff_eq.2 (by omega)
  have em : ((o.puts.length : Int) == 0) = true := beq_iff_eq.2 (by omega)
  have e1 : (o.kind == 1) = false := beq_eq_false_iff_ne.2 (by omega)
  have e2 : (o.kind == 2) = false := beq_eq_false_iff_ne.2 (by omega)
  have e3 : (o.kind == 3) = false := beq_eq_false_iff_ne.2 (by omega)
  have e4 : (o.kind == 4) = true := beq_iff_eq.2 hk
  have HR0 := Lib.hid (show rightB o = (decide (o.news.length = 0) && decide (o.puts.length = 0) && decide (o.pos = 0) && decide (o.n = 0) && inB o.snap 1 1073741824) by unfold rightB; rw [if_neg (by omega), if_neg (by omega), if_pos (by omega)])
  clear hk
  have HR := Lib.hid (show rightB o = inB o.snap 1 1073741824 by rw [HR0.out]; simp only [decide_eq_true hp, decide_eq_true hq, decide_eq_true h1, decide_eq_true h2, Bool.true_and])
  clear hp hq h1 h2
  go_enter Tryz.func41, Tryz.ntmps41
  go_upto_region 1 with ((with_reducible show wpList _ _ _ (_ :: _) _ _); refine wpl_box rfl 35 (.tmp 0) rfl _ rfl ?_; intro w1 hk hg hz; have K1 := Lib.hid hk; have G1 := Lib.hid hg; clear hk hg hz)
  have X := Lib.hid (show RgCtx w w1 o A c B d from ⟨bl_n (Below.refl _ _) G1.out, H.out.below (bl_n (Below.refl _ _) G1.out), K1.out⟩)
  have c0 := K1.out.cell (i := 0) (v := .int .u8 o.kind) rfl
  have c1 := K1.out.cell (i := 1) (v := .int .i64 o.pos) rfl
  have c2 := K1.out.cell (i := 2) (v := .int .i64 o.n) rfl
  have c3 := K1.out.cell (i := 3) (v := .int .i64 o.snap) rfl
  have c4 := K1.out.cell (i := 4) (v := .slice A o.news.length c) rfl
  have c5 := K1.out.cell (i := 5) (v := .slice B o.puts.length d) rfl
  clear G1 K1

  obtain ⟨b1, h1⟩ : ∃ b, b = inB o.snap 1 1073741824 := ⟨_, rfl⟩
  have C1 := Lib.hid (fun W => opWithin_any o.snap 1 1073741824 W)
  rw [show decide (1 ≤ o.snap ∧ o.snap ≤ 1073741824) = b1 from h1.symm] at C1
  rw [← h1] at HR
  clear h1
  go_wp2_with fail
  refine (C1.out _).mono ?_
  rintro e wq ⟨rfl, rfl⟩
  go_wp2_with fail
  go_ret
  unfold RgPost
  rw [HR.out]
  exact ⟨rfl, X.out.low⟩

set_option maxRecDepth 100000 in
set_option maxHeartbeats 1000000 in
theorem right_401 {w : World} {o : OpV} {A : Option Addr} {c : Nat} {B : Option Addr} {d : Nat} (h : OpAt w o A c B d) (hn : o.news.length ≤ 100000000) (hm : o.puts.length ≤ 100000000) (hp : o.pos = 0) (hq : o.n = 0) (h1 : o.news.length = 0) (h2 : o.puts.length ≠ 0) (hk : o.kind = 4) :
    Calls Tryz.prog 41 #[.agg (opC o A c B d).toArray] w (RgPost o w) := by
  have H := Lib.hid h
  clear h

  have ep : (o.pos == 0) = true := beq_iff_eq.2 hp
  have eq : (o.n == 0) = true := beq_iff_eq.2 hq
  have el : ((o.news.length : Int) == 0) = true := beq_iff_eq.2 (by omega)
  have em : ((o.puts.length : Int) == 0) = false := beq_eq_false_iff_ne.2 (by omega)
  have e1 : (o.kind == 1) = false := beq_eq_false_iff_ne.2 (by omega)
  have e2 : (o.kind == 2) = false := beq_eq_false_iff_ne.2 (by omega)
  have e3 : (o.kind == 3) = false := beq_eq_false_iff_ne.2 (by omega)
  have e4 : (o.kind == 4) = true := beq_iff_eq.2 hk
  have HR0 := Lib.hid (show rightB o = (decide (o.news.length = 0) && decide (o.puts.length = 0) && decide (o.pos = 0) && decide (o.n = 0) && inB o.snap 1 1073741824) by unfold rightB; rw [if_neg (by omega), if_neg (by omega), if_pos (by omega)])
  clear hk
  have HR := Lib.hid (show rightB o = false by rw [HR0.out]; simp only [decide_eq_true hp, decide_eq_true hq, decide_eq_true h1, decide_eq_false h2, Bool.false_and, Bool.and_false, Bool.true_and])
  clear hp hq h1 h2
  go_enter Tryz.func41, Tryz.ntmps41
  go_upto_region 1 with ((with_reducible show wpList _ _ _ (_ :: _) _ _); refine wpl_box rfl 35 (.tmp 0) rfl _ rfl ?_; intro w1 hk hg hz; have K1 := Lib.hid hk; have G1 := Lib.hid hg; clear hk hg hz)
  have X := Lib.hid (show RgCtx w w1 o A c B d from ⟨bl_n (Below.refl _ _) G1.out, H.out.below (bl_n (Below.refl _ _) G1.out), K1.out⟩)
  have c0 := K1.out.cell (i := 0) (v := .int .u8 o.kind) rfl
  have c1 := K1.out.cell (i := 1) (v := .int .i64 o.pos) rfl
  have c2 := K1.out.cell (i := 2) (v := .int .i64 o.n) rfl
  have c3 := K1.out.cell (i := 3) (v := .int .i64 o.snap) rfl
  have c4 := K1.out.cell (i := 4) (v := .slice A o.news.length c) rfl
  have c5 := K1.out.cell (i := 5) (v := .slice B o.puts.length d) rfl
  clear G1 K1

  go_wp2_with fail
  go_ret
  unfold RgPost
  rw [HR.out]
  exact ⟨rfl, X.out.low⟩

set_option maxRecDepth 100000 in
set_option maxHeartbeats 1000000 in
theorem right_402 {w : World} {o : OpV} {A : Option Addr} {c : Nat} {B : Option Addr} {d : Nat} (h : OpAt w o A c B d) (hn : o.news.length ≤ 100000000) (hm : o.puts.length ≤ 100000000) (hp : o.pos = 0) (hq : o.n = 0) (h1 : o.news.length ≠ 0) (hk : o.kind = 4) :
    Calls Tryz.prog 41 #[.agg (opC o A c B d).toArray] w (RgPost o w) := by
  have H := Lib.hid h
  clear h

  have ep : (o.pos == 0) = true := beq_iff_eq.2 hp
  have eq : (o.n == 0) = true := beq_iff_eq.2 hq
  have el : ((o.news.length : Int) == 0) = false := beq_eq_false_iff_ne.2 (by omega)
  have e1 : (o.kind == 1) = false := beq_eq_false_iff_ne.2 (by omega)
  have e2 : (o.kind == 2) = false := beq_eq_false_iff_ne.2 (by omega)
  have e3 : (o.kind == 3) = false := beq_eq_false_iff_ne.2 (by omega)
  have e4 : (o.kind == 4) = true := beq_iff_eq.2 hk
  have HR0 := Lib.hid (show rightB o = (decide (o.news.length = 0) && decide (o.puts.length = 0) && decide (o.pos = 0) && decide (o.n = 0) && inB o.snap 1 1073741824) by unfold rightB; rw [if_neg (by omega), if_neg (by omega), if_pos (by omega)])
  clear hk
  have HR := Lib.hid (show rightB o = false by rw [HR0.out]; simp only [decide_eq_true hp, decide_eq_true hq, decide_eq_false h1, Bool.false_and, Bool.and_false, Bool.true_and])
  clear hp hq h1
  go_enter Tryz.func41, Tryz.ntmps41
  go_upto_region 1 with ((with_reducible show wpList _ _ _ (_ :: _) _ _); refine wpl_box rfl 35 (.tmp 0) rfl _ rfl ?_; intro w1 hk hg hz; have K1 := Lib.hid hk; have G1 := Lib.hid hg; clear hk hg hz)
  have X := Lib.hid (show RgCtx w w1 o A c B d from ⟨bl_n (Below.refl _ _) G1.out, H.out.below (bl_n (Below.refl _ _) G1.out), K1.out⟩)
  have c0 := K1.out.cell (i := 0) (v := .int .u8 o.kind) rfl
  have c1 := K1.out.cell (i := 1) (v := .int .i64 o.pos) rfl
  have c2 := K1.out.cell (i := 2) (v := .int .i64 o.n) rfl
  have c3 := K1.out.cell (i := 3) (v := .int .i64 o.snap) rfl
  have c4 := K1.out.cell (i := 4) (v := .slice A o.news.length c) rfl
  have c5 := K1.out.cell (i := 5) (v := .slice B o.puts.length d) rfl
  clear G1 K1

  go_wp2_with fail
  go_ret
  unfold RgPost
  rw [HR.out]
  exact ⟨rfl, X.out.low⟩

set_option maxRecDepth 100000 in
set_option maxHeartbeats 1000000 in
theorem right_410 {w : World} {o : OpV} {A : Option Addr} {c : Nat} {B : Option Addr} {d : Nat} (h : OpAt w o A c B d) (hn : o.news.length ≤ 100000000) (hm : o.puts.length ≤ 100000000) (hp : o.pos = 0) (hq : o.n ≠ 0) (h1 : o.news.length = 0) (h2 : o.puts.length = 0) (hk : o.kind = 4) :
    Calls Tryz.prog 41 #[.agg (opC o A c B d).toArray] w (RgPost o w) := by
  have H := Lib.hid h
  clear h

  have ep : (o.pos == 0) = true := beq_iff_eq.2 hp
  have eq : (o.n == 0) = false := beq_eq_false_iff_ne.2 hq
  have el : ((o.news.length : Int) == 0) = true := beq_iff_eq.2 (by omega)
  have em : ((o.puts.length : Int) == 0) = true := beq_iff_eq.2 (by omega)
  have e1 : (o.kind == 1) = false := beq_eq_false_iff_ne.2 (by omega)
  have e2 : (o.kind == 2) = false := beq_eq_false_iff_ne.2 (by omega)
  have e3 : (o.kind == 3) = false := beq_eq_false_iff_ne.2 (by omega)
  have e4 : (o.kind == 4) = true := beq_iff_eq.2 hk
  have HR0 := Lib.hid (show rightB o = (decide (o.news.length = 0) && decide (o.puts.length = 0) && decide (o.pos = 0) && decide (o.n = 0) && inB o.snap 1 1073741824) by unfold rightB; rw [if_neg (by omega), if_neg (by omega), if_pos (by omega)])
  clear hk
  have HR := Lib.hid (show rightB o = false by rw [HR0.out]; simp only [decide_eq_true hp, decide_eq_false hq, decide_eq_true h1, decide_eq_true h2, Bool.false_and, Bool.and_false, Bool.true_and])
  clear hp hq h1 h2
  go_enter Tryz.func41, Tryz.ntmps41
  go_upto_region 1 with ((with_reducible show wpList _ _ _ (_ :: _) _ _); refine wpl_box rfl 35 (.tmp 0) rfl _ rfl ?_; intro w1 hk hg hz; have K1 := Lib.hid hk; have G1 := Lib.hid hg; clear hk hg hz)
  have X := Lib.hid (show RgCtx w w1 o A c B d from ⟨bl_n (Below.refl _ _) G1.out, H.out.below (bl_n (Below.refl _ _) G1.out), K1.out⟩)
  have c0 := K1.out.cell (i := 0) (v := .int .u8 o.kind) rfl
  have c1 := K1.out.cell (i := 1) (v := .int .i64 o.pos) rfl
  have c2 := K1.out.cell (i := 2) (v := .int .i64 o.n) rfl
  have c3 := K1.out.cell (i := 3) (v := .int .i64 o.snap) rfl
  have c4 := K1.out.cell (i := 4) (v := .slice A o.news.length c) rfl
  have c5 := K1.out.cell (i := 5) (v := .slice B o.puts.length d) rfl
  clear G1 K1

  go_wp2_with fail
  go_ret
  unfold RgPost
  rw [HR.out]
  exact ⟨rfl, X.out.low⟩

set_option maxRecDepth 100000 in
set_option maxHeartbeats 1000000 in
theorem right_411 {w : World} {o : OpV} {A : Option Addr} {c : Nat} {B : Option Addr} {d : Nat} (h : OpAt w o A c B d) (hn : o.news.length ≤ 100000000) (hm : o.puts.length ≤ 100000000) (hp : o.pos = 0) (hq : o.n ≠ 0) (h1 : o.news.length = 0) (h2 : o.puts.length ≠ 0) (hk : o.kind = 4) :
    Calls Tryz.prog 41 #[.agg (opC o A c B d).toArray] w (RgPost o w) := by
  have H := Lib.hid h
  clear h

  have ep : (o.pos == 0) = true := beq_iff_eq.2 hp
  have eq : (o.n == 0) = false := beq_eq_false_iff_ne.2 hq
  have el : ((o.news.length : Int) == 0) = true := beq_iff_eq.2 (by omega)
  have em : ((o.puts.length : Int) == 0) = false := beq_eq_false_iff_ne.2 (by omega)
  have e1 : (o.kind == 1) = false := beq_eq_false_iff_ne.2 (by omega)
  have e2 : (o.kind == 2) = false := beq_eq_false_iff_ne.2 (by omega)
  have e3 : (o.kind == 3) = false := beq_eq_false_iff_ne.2 (by omega)
  have e4 : (o.kind == 4) = true := beq_iff_eq.2 hk
  have HR0 := Lib.hid (show rightB o = (decide (o.news.length = 0) && decide (o.puts.length = 0) && decide (o.pos = 0) && decide (o.n = 0) && inB o.snap 1 1073741824) by unfold rightB; rw [if_neg (by omega), if_neg (by omega), if_pos (by omega)])
  clear hk
  have HR := Lib.hid (show rightB o = false by rw [HR0.out]; simp only [decide_eq_true hp, decide_eq_false hq, decide_eq_true h1, decide_eq_false h2, Bool.false_and, Bool.and_false, Bool.true_and])
  clear hp hq h1 h2
  go_enter Tryz.func41, Tryz.ntmps41
  go_upto_region 1 with ((with_reducible show wpList _ _ _ (_ :: _) _ _); refine wpl_box rfl 35 (.tmp 0) rfl _ rfl ?_; intro w1 hk hg hz; have K1 := Lib.hid hk; have G1 := Lib.hid hg; clear hk hg hz)
  have X := Lib.hid (show RgCtx w w1 o A c B d from ⟨bl_n (Below.refl _ _) G1.out, H.out.below (bl_n (Below.refl _ _) G1.out), K1.out⟩)
  have c0 := K1.out.cell (i := 0) (v := .int .u8 o.kind) rfl
  have c1 := K1.out.cell (i := 1) (v := .int .i64 o.pos) rfl
  have c2 := K1.out.cell (i := 2) (v := .int .i64 o.n) rfl
  have c3 := K1.out.cell (i := 3) (v := .int .i64 o.snap) rfl
  have c4 := K1.out.cell (i := 4) (v := .slice A o.news.length c) rfl
  have c5 := K1.out.cell (i := 5) (v := .slice B o.puts.length d) rfl
  clear G1 K1

  go_wp2_with fail
  go_ret
  unfold RgPost
  rw [HR.out]
  exact ⟨rfl, X.out.low⟩

set_option maxRecDepth 100000 in
set_option maxHeartbeats 1000000 in
theorem right_412 {w : World} {o : OpV} {A : Option Addr} {c : Nat} {B : Option Addr} {d : Nat} (h : OpAt w o A c B d) (hn : o.news.length ≤ 100000000) (hm : o.puts.length ≤ 100000000) (hp : o.pos = 0) (hq : o.n ≠ 0) (h1 : o.news.length ≠ 0) (hk : o.kind = 4) :
    Calls Tryz.prog 41 #[.agg (opC o A c B d).toArray] w (RgPost o w) := by
  have H := Lib.hid h
  clear h

  have ep : (o.pos == 0) = true := beq_iff_eq.2 hp
  have eq : (o.n == 0) = false := beq_eq_false_iff_ne.2 hq
  have el : ((o.news.length : Int) == 0) = false := beq_eq_false_iff_ne.2 (by omega)
  have e1 : (o.kind == 1) = false := beq_eq_false_iff_ne.2 (by omega)
  have e2 : (o.kind == 2) = false := beq_eq_false_iff_ne.2 (by omega)
  have e3 : (o.kind == 3) = false := beq_eq_false_iff_ne.2 (by omega)
  have e4 : (o.kind == 4) = true := beq_iff_eq.2 hk
  have HR0 := Lib.hid (show rightB o = (decide (o.news.length = 0) && decide (o.puts.length = 0) && decide (o.pos = 0) && decide (o.n = 0) && inB o.snap 1 1073741824) by unfold rightB; rw [if_neg (by omega), if_neg (by omega), if_pos (by omega)])
  clear hk
  have HR := Lib.hid (show rightB o = false by rw [HR0.out]; simp only [decide_eq_true hp, decide_eq_false hq, decide_eq_false h1, Bool.false_and, Bool.and_false, Bool.true_and])
  clear hp hq h1
  go_enter Tryz.func41, Tryz.ntmps41
  go_upto_region 1 with ((with_reducible show wpList _ _ _ (_ :: _) _ _); refine wpl_box rfl 35 (.tmp 0) rfl _ rfl ?_; intro w1 hk hg hz; have K1 := Lib.hid hk; have G1 := Lib.hid hg; clear hk hg hz)
  have X := Lib.hid (show RgCtx w w1 o A c B d from ⟨bl_n (Below.refl _ _) G1.out, H.out.below (bl_n (Below.refl _ _) G1.out), K1.out⟩)
  have c0 := K1.out.cell (i := 0) (v := .int .u8 o.kind) rfl
  have c1 := K1.out.cell (i := 1) (v := .int .i64 o.pos) rfl
  have c2 := K1.out.cell (i := 2) (v := .int .i64 o.n) rfl
  have c3 := K1.out.cell (i := 3) (v := .int .i64 o.snap) rfl
  have c4 := K1.out.cell (i := 4) (v := .slice A o.news.length c) rfl
  have c5 := K1.out.cell (i := 5) (v := .slice B o.puts.length d) rfl
  clear G1 K1

  go_wp2_with fail
  go_ret
  unfold RgPost
  rw [HR.out]
  exact ⟨rfl, X.out.low⟩

set_option maxRecDepth 100000 in
set_option maxHeartbeats 1000000 in
theorem right_420 {w : World} {o : OpV} {A : Option Addr} {c : Nat} {B : Option Addr} {d : Nat} (h : OpAt w o A c B d) (hn : o.news.length ≤ 100000000) (hm : o.puts.length ≤ 100000000) (hp : o.pos ≠ 0) (h1 : o.news.length = 0) (h2 : o.puts.length = 0) (hk : o.kind = 4) :
    Calls Tryz.prog 41 #[.agg (opC o A c B d).toArray] w (RgPost o w) := by
  have H := Lib.hid h
  clear h

  have ep : (o.pos == 0) = false := beq_eq_false_iff_ne.2 hp
  have el : ((o.news.length : Int) == 0) = true := beq_iff_eq.2 (by omega)
  have em : ((o.puts.length : Int) == 0) = true := beq_iff_eq.2 (by omega)
  have e1 : (o.kind == 1) = false := beq_eq_false_iff_ne.2 (by omega)
  have e2 : (o.kind == 2) = false := beq_eq_false_iff_ne.2 (by omega)
  have e3 : (o.kind == 3) = false := beq_eq_false_iff_ne.2 (by omega)
  have e4 : (o.kind == 4) = true := beq_iff_eq.2 hk
  have HR0 := Lib.hid (show rightB o = (decide (o.news.length = 0) && decide (o.puts.length = 0) && decide (o.pos = 0) && decide (o.n = 0) && inB o.snap 1 1073741824) by unfold rightB; rw [if_neg (by omega), if_neg (by omega), if_pos (by omega)])
  clear hk
  have HR := Lib.hid (show rightB o = false by rw [HR0.out]; simp only [decide_eq_false hp, decide_eq_true h1, decide_eq_true h2, Bool.false_and, Bool.and_false, Bool.true_and])
  clear hp h1 h2
  go_enter Tryz.func41, Tryz.ntmps41
  go_upto_region 1 with ((with_reducible show wpList _ _ _ (_ :: _) _ _); refine wpl_box rfl 35 (.tmp 0) rfl _ rfl ?_; intro w1 hk hg hz; have K1 := Lib.hid hk; have G1 := Lib.hid hg; clear hk hg hz)
  have X := Lib.hid (show RgCtx w w1 o A c B d from ⟨bl_n (Below.refl _ _) G1.out, H.out.below (bl_n (Below.refl _ _) G1.out), K1.out⟩)
  have c0 := K1.out.cell (i := 0) (v := .int .u8 o.kind) rfl
  have c1 := K1.out.cell (i := 1) (v := .int .i64 o.pos) rfl
  have c2 := K1.out.cell (i := 2) (v := .int .i64 o.n) rfl
  have c3 := K1.out.cell (i := 3) (v := .int .i64 o.snap) rfl
  have c4 := K1.out.cell (i := 4) (v := .slice A o.news.length c) rfl
  have c5 := K1.out.cell (i := 5) (v := .slice B o.puts.length d) rfl
  clear G1 K1

  go_wp2_with fail
  go_ret
  unfold RgPost
  rw [HR.out]
  exact ⟨rfl, X.out.low⟩

set_option maxRecDepth 100000 in
set_option maxHeartbeats 1000000 in
theorem right_421 {w : World} {o : OpV} {A : Option Addr} {c : Nat} {B : Option Addr} {d : Nat} (h : OpAt w o A c B d) (hn : o.news.length ≤ 100000000) (hm : o.puts.length ≤ 100000000) (hp : o.pos ≠ 0) (h1 : o.news.length = 0) (h2 : o.puts.length ≠ 0) (hk : o.kind = 4) :
    Calls Tryz.prog 41 #[.agg (opC o A c B d).toArray] w (RgPost o w) := by
  have H := Lib.hid h
  clear h

  have ep : (o.pos == 0) = false := beq_eq_false_iff_ne.2 hp
  have el : ((o.news.length : Int) == 0) = true := beq_iff_eq.2 (by omega)
  have em : ((o.puts.length : Int) == 0) = false := beq_eq_false_iff_ne.2 (by omega)
  have e1 : (o.kind == 1) = false := beq_eq_false_iff_ne.2 (by omega)
  have e2 : (o.kind == 2) = false := beq_eq_false_iff_ne.2 (by omega)
  have e3 : (o.kind == 3) = false := beq_eq_false_iff_ne.2 (by omega)
  have e4 : (o.kind == 4) = true := beq_iff_eq.2 hk
  have HR0 := Lib.hid (show rightB o = (decide (o.news.length = 0) && decide (o.puts.length = 0) && decide (o.pos = 0) && decide (o.n = 0) && inB o.snap 1 1073741824) by unfold rightB; rw [if_neg (by omega), if_neg (by omega), if_pos (by omega)])
  clear hk
  have HR := Lib.hid (show rightB o = false by rw [HR0.out]; simp only [decide_eq_false hp, decide_eq_true h1, decide_eq_false h2, Bool.false_and, Bool.and_false, Bool.true_and])
  clear hp h1 h2
  go_enter Tryz.func41, Tryz.ntmps41
  go_upto_region 1 with ((with_reducible show wpList _ _ _ (_ :: _) _ _); refine wpl_box rfl 35 (.tmp 0) rfl _ rfl ?_; intro w1 hk hg hz; have K1 := Lib.hid hk; have G1 := Lib.hid hg; clear hk hg hz)
  have X := Lib.hid (show RgCtx w w1 o A c B d from ⟨bl_n (Below.refl _ _) G1.out, H.out.below (bl_n (Below.refl _ _) G1.out), K1.out⟩)
  have c0 := K1.out.cell (i := 0) (v := .int .u8 o.kind) rfl
  have c1 := K1.out.cell (i := 1) (v := .int .i64 o.pos) rfl
  have c2 := K1.out.cell (i := 2) (v := .int .i64 o.n) rfl
  have c3 := K1.out.cell (i := 3) (v := .int .i64 o.snap) rfl
  have c4 := K1.out.cell (i := 4) (v := .slice A o.news.length c) rfl
  have c5 := K1.out.cell (i := 5) (v := .slice B o.puts.length d) rfl
  clear G1 K1

  go_wp2_with fail
  go_ret
  unfold RgPost
  rw [HR.out]
  exact ⟨rfl, X.out.low⟩

set_option maxRecDepth 100000 in
set_option maxHeartbeats 1000000 in
theorem right_422 {w : World} {o : OpV} {A : Option Addr} {c : Nat} {B : Option Addr} {d : Nat} (h : OpAt w o A c B d) (hn : o.news.length ≤ 100000000) (hm : o.puts.length ≤ 100000000) (hp : o.pos ≠ 0) (h1 : o.news.length ≠ 0) (hk : o.kind = 4) :
    Calls Tryz.prog 41 #[.agg (opC o A c B d).toArray] w (RgPost o w) := by
  have H := Lib.hid h
  clear h

  have ep : (o.pos == 0) = false := beq_eq_false_iff_ne.2 hp
  have el : ((o.news.length : Int) == 0) = false := beq_eq_false_iff_ne.2 (by omega)
  have e1 : (o.kind == 1) = false := beq_eq_false_iff_ne.2 (by omega)
  have e2 : (o.kind == 2) = false := beq_eq_false_iff_ne.2 (by omega)
  have e3 : (o.kind == 3) = false := beq_eq_false_iff_ne.2 (by omega)
  have e4 : (o.kind == 4) = true := beq_iff_eq.2 hk
  have HR0 := Lib.hid (show rightB o = (decide (o.news.length = 0) && decide (o.puts.length = 0) && decide (o.pos = 0) && decide (o.n = 0) && inB o.snap 1 1073741824) by unfold rightB; rw [if_neg (by omega), if_neg (by omega), if_pos (by omega)])
  clear hk
  have HR := Lib.hid (show rightB o = false by rw [HR0.out]; simp only [decide_eq_false hp, decide_eq_false h1, Bool.false_and, Bool.and_false, Bool.true_and])
  clear hp h1
  go_enter Tryz.func41, Tryz.ntmps41
  go_upto_region 1 with ((with_reducible show wpList _ _ _ (_ :: _) _ _); refine wpl_box rfl 35 (.tmp 0) rfl _ rfl ?_; intro w1 hk hg hz; have K1 := Lib.hid hk; have G1 := Lib.hid hg; clear hk hg hz)
  have X := Lib.hid (show RgCtx w w1 o A c B d from ⟨bl_n (Below.refl _ _) G1.out, H.out.below (bl_n (Below.refl _ _) G1.out), K1.out⟩)
  have c0 := K1.out.cell (i := 0) (v := .int .u8 o.kind) rfl
  have c1 := K1.out.cell (i := 1) (v := .int .i64 o.pos) rfl
  have c2 := K1.out.cell (i := 2) (v := .int .i64 o.n) rfl
  have c3 := K1.out.cell (i := 3) (v := .int .i64 o.snap) rfl
  have c4 := K1.out.cell (i := 4) (v := .slice A o.news.length c) rfl
  have c5 := K1.out.cell (i := 5) (v := .slice B o.puts.length d) rfl
  clear G1 K1

  go_wp2_with fail
  go_ret
  unfold RgPost
  rw [HR.out]
  exact ⟨rfl, X.out.low⟩

set_option maxRecDepth 100000 in
set_option maxHeartbeats 1000000 in
theorem right_500 {w : World} {o : OpV} {A : Option Addr} {c : Nat} {B : Option Addr} {d : Nat} (h : OpAt w o A c B d) (hn : o.news.length ≤ 100000000) (hm : o.puts.length ≤ 100000000) (hp : o.pos = 0) (hq : o.n = 0) (h1 : o.news.length = 0) (h2 : o.puts.length = 0) (hk : o.kind = 5) :
    Calls Tryz.prog 41 #[.agg (opC o A c B d).toArray] w (RgPost o w) := by
  have H := Lib.hid h
  clear h

  have ep : (o.pos == 0) = true := beq_iff_eq.2 hp
  have eq : (o.n == 0) = true := beq_iff_eq.2 hq
  have el : ((o.news.length : Int) == 0) = true := beq_iff_eq.2 (by omega)
  have em : ((o.puts.length : Int) == 0) = true := beq_iff_eq.2 (by omega)
  have e1 : (o.kind == 1) = false := beq_eq_false_iff_ne.2 (by omega)
  have e2 : (o.kind == 2) = false := beq_eq_false_iff_ne.2 (by omega)
  have e3 : (o.kind == 3) = false := beq_eq_false_iff_ne.2 (by omega)
  have e4 : (o.kind == 4) = false := beq_eq_false_iff_ne.2 (by omega)
  have e5 : (o.kind == 5) = true := beq_iff_eq.2 hk
  have HR0 := Lib.hid (show rightB o = (decide (o.news.length = 0) && decide (o.puts.length = 0) && decide (o.pos = 0) && decide (o.n = 0) && inB o.snap 1 1073741824) by unfold rightB; rw [if_neg (by omega), if_neg (by omega), if_pos (by omega)])
  clear hk
  have HR := Lib.hid (show rightB o = inB o.snap 1 1073741824 by rw [HR0.out]; simp only [decide_eq_true hp, decide_eq_true hq, decide_eq_true h1, decide_eq_true h2, Bool.true_and])
  clear hp hq h1 h2
  go_enter Tryz.func41, Tryz.ntmps41
  go_upto_region 1 with ((with_reducible show wpList _ _ _ (_ :: _) _ _); refine wpl_box rfl 35 (.tmp 0) rfl _ rfl ?_; intro w1 hk hg hz; have K1 := Lib.hid hk; have G1 := Lib.hid hg; clear hk hg hz)
  have X := Lib.hid (show RgCtx w w1 o A c B d from ⟨bl_n (Below.refl _ _) G1.out, H.out.below (bl_n (Below.refl _ _) G1.out), K1.out⟩)
  have c0 := K1.out.cell (i := 0) (v := .int .u8 o.kind) rfl
  have c1 := K1.out.cell (i := 1) (v := .int .i64 o.pos) rfl
  have c2 := K1.out.cell (i := 2) (v := .int .i64 o.n) rfl
  have c3 := K1.out.cell (i := 3) (v := .int .i64 o.snap) rfl
  have c4 := K1.out.cell (i := 4) (v := .slice A o.news.length c) rfl
  have c5 := K1.out.cell (i := 5) (v := .slice B o.puts.length d) rfl
  clear G1 K1

  obtain ⟨b1, h1⟩ : ∃ b, b = inB o.snap 1 1073741824 := ⟨_, rfl⟩
  have C1 := Lib.hid (fun W => opWithin_any o.snap 1 1073741824 W)
  rw [show decide (1 ≤ o.snap ∧ o.snap ≤ 1073741824) = b1 from h1.symm] at C1
  rw [← h1] at HR
  clear h1
  go_wp2_with fail
  refine (C1.out _).mono ?_
  rintro e wq ⟨rfl, rfl⟩
  go_wp2_with fail
  go_ret
  unfold RgPost
  rw [HR.out]
  exact ⟨rfl, X.out.low⟩

set_option maxRecDepth 100000 in
set_option maxHeartbeats 1000000 in
theorem right_501 {w : World} {o : OpV} {A : Option Addr} {c : Nat} {B : Option Addr} {d : Nat} (h : OpAt w o A c B d) (hn : o.news.length ≤ 100000000) (hm : o.puts.length ≤ 100000000) (hp : o.pos = 0) (hq : o.n = 0) (h1 : o.news.length = 0) (h2 : o.puts.length ≠ 0) (hk : o.kind = 5) :
    Calls Tryz.prog 41 #[.agg (opC o A c B d).toArray] w (RgPost o w) := by
  have H := Lib.hid h
  clear h

  have ep : (o.pos == 0) = true := beq_iff_eq.2 hp
  have eq : (o.n == 0) = true := beq_iff_eq.2 hq
  have el : ((o.news.length : Int) == 0) = true := beq_iff_eq.2 (by omega)
  have em : ((o.puts.length : Int) == 0) = false := beq_eq_false_iff_ne.2 (by omega)
  have e1 : (o.kind == 1) = false := beq_eq_false_iff_ne.2 (by omega)
  have e2 : (o.kind == 2) = false := beq_eq_false_iff_ne.2 (by omega)
  have e3 : (o.kind == 3) = false := beq_eq_false_iff_ne.2 (by omega)
  have e4 : (o.kind == 4) = false := beq_eq_false_iff_ne.2 (by omega)
  have e5 : (o.kind == 5) = true := beq_iff_eq.2 hk
  have HR0 := Lib.hid (show rightB o = (decide (o.news.length = 0) && decide (o.puts.length = 0) && decide (o.pos = 0) && decide (o.n = 0) && inB o.snap 1 1073741824) by unfold rightB; rw [if_neg (by omega), if_neg (by omega), if_pos (by omega)])
  clear hk
  have HR := Lib.hid (show rightB o = false by rw [HR0.out]; simp only [decide_eq_true hp, decide_eq_true hq, decide_eq_true h1, decide_eq_false h2, Bool.false_and, Bool.and_false, Bool.true_and])
  clear hp hq h1 h2
  go_enter Tryz.func41, Tryz.ntmps41
  go_upto_region 1 with ((with_reducible show wpList _ _ _ (_ :: _) _ _); refine wpl_box rfl 35 (.tmp 0) rfl _ rfl ?_; intro w1 hk hg hz; have K1 := Lib.hid hk; have G1 := Lib.hid hg; clear hk hg hz)
  have X := Lib.hid (show RgCtx w w1 o A c B d from ⟨bl_n (Below.refl _ _) G1.out, H.out.below (bl_n (Below.refl _ _) G1.out), K1.out⟩)
  have c0 := K1.out.cell (i := 0) (v := .int .u8 o.kind) rfl
  have c1 := K1.out.cell (i := 1) (v := .int .i64 o.pos) rfl
  have c2 := K1.out.cell (i := 2) (v := .int .i64 o.n) rfl
  have c3 := K1.out.cell (i := 3) (v := .int .i64 o.snap) rfl
  have c4 := K1.out.cell (i := 4) (v := .slice A o.news.length c) rfl
  have c5 := K1.out.cell (i := 5) (v := .slice B o.puts.length d) rfl
  clear G1 K1

  go_wp2_with fail
  go_ret
  unfold RgPost
  rw [HR.out]
  exact ⟨rfl, X.out.low⟩

set_option maxRecDepth 100000 in
set_option maxHeartbeats 1000000 in
theorem right_502 {w : World} {o : OpV} {A : Option Addr} {c : Nat} {B : Option Addr} {d : Nat} (h : OpAt w o A c B d) (hn : o.news.length ≤ 100000000) (hm : o.puts.length ≤ 100000000) (hp : o.pos = 0) (hq : o.n = 0) (h1 : o.news.length ≠ 0) (hk : o.kind = 5) :
    Calls Tryz.prog 41 #[.agg (opC o A c B d).toArray] w (RgPost o w) := by
  have H := Lib.hid h
  clear h

  have ep : (o.pos == 0) = true := beq_iff_eq.2 hp
  have eq : (o.n == 0) = true := beq_iff_eq.2 hq
  have el : ((o.news.length : Int) == 0) = false := beq_eq_false_iff_ne.2 (by omega)
  have e1 : (o.kind == 1) = false := beq_eq_false_iff_ne.2 (by omega)
  have e2 : (o.kind == 2) = false := beq_eq_false_iff_ne.2 (by omega)
  have e3 : (o.kind == 3) = false := beq_eq_false_iff_ne.2 (by omega)
  have e4 : (o.kind == 4) = false := beq_eq_false_iff_ne.2 (by omega)
  have e5 : (o.kind == 5) = true := beq_iff_eq.2 hk
  have HR0 := Lib.hid (show rightB o = (decide (o.news.length = 0) && decide (o.puts.length = 0) && decide (o.pos = 0) && decide (o.n = 0) && inB o.snap 1 1073741824) by unfold rightB; rw [if_neg (by omega), if_neg (by omega), if_pos (by omega)])
  clear hk
  have HR := Lib.hid (show rightB o = false by rw [HR0.out]; simp only [decide_eq_true hp, decide_eq_true hq, decide_eq_false h1, Bool.false_and, Bool.and_false, Bool.true_and])
  clear hp hq h1
  go_enter Tryz.func41, Tryz.ntmps41
  go_upto_region 1 with ((with_reducible show wpList _ _ _ (_ :: _) _ _); refine wpl_box rfl 35 (.tmp 0) rfl _ rfl ?_; intro w1 hk hg hz; have K1 := Lib.hid hk; have G1 := Lib.hid hg; clear hk hg hz)
  have X := Lib.hid (show RgCtx w w1 o A c B d from ⟨bl_n (Below.refl _ _) G1.out, H.out.below (bl_n (Below.refl _ _) G1.out), K1.out⟩)
  have c0 := K1.out.cell (i := 0) (v := .int .u8 o.kind) rfl
  have c1 := K1.out.cell (i := 1) (v := .int .i64 o.pos) rfl
  have c2 := K1.out.cell (i := 2) (v := .int .i64 o.n) rfl
  have c3 := K1.out.cell (i := 3) (v := .int .i64 o.snap) rfl
  have c4 := K1.out.cell (i := 4) (v := .slice A o.news.length c) rfl
  have c5 := K1.out.cell (i := 5) (v := .slice B o.puts.length d) rfl
  clear G1 K1

  go_wp2_with fail
  go_ret
  unfold RgPost
  rw [HR.out]
  exact ⟨rfl, X.out.low⟩

set_option maxRecDepth 100000 in
set_option maxHeartbeats 1000000 in
theorem right_510 {w : World} {o : OpV} {A : Option Addr} {c : Nat} {B : Option Addr} {d : Nat} (h : OpAt w o A c B d) (hn : o.news.length ≤ 100000000) (hm : o.puts.length ≤ 100000000) (hp : o.pos = 0) (hq : o.n ≠ 0) (h1 : o.news.length = 0) (h2 : o.puts.length = 0) (hk : o.kind = 5) :
    Calls Tryz.prog 41 #[.agg (opC o A c B d).toArray] w (RgPost o w) := by
  have H := Lib.hid h
  clear h

  have ep : (o.pos == 0) = true := beq_iff_eq.2 hp
  have eq : (o.n == 0) = false := beq_eq_false_iff_ne.2 hq
  have el : ((o.news.length : Int) == 0) = true := beq_iff_eq.2 (by omega)
  have em : ((o.puts.length : Int) == 0) = true := beq_iff_eq.2 (by omega)
  have e1 : (o.kind == 1) = false := beq_eq_false_iff_ne.2 (by omega)
  have e2 : (o.kind == 2) = false := beq_eq_false_iff_ne.2 (by omega)
  have e3 : (o.kind == 3) = false := beq_eq_false_iff_ne.2 (by omega)
  have e4 : (o.kind == 4) = false := beq_eq_false_iff_ne.2 (by omega)
  have e5 : (o.kind == 5) = true := beq_iff_eq.2 hk
  have HR0 := Lib.hid (show rightB o = (decide (o.news.length = 0) && decide (o.puts.length = 0) && decide (o.pos = 0) && decide (o.n = 0) && inB o.snap 1 1073741824) by unfold rightB; rw [if_neg (by omega), if_neg (by omega), if_pos (by omega)])
  clear hk
  have HR := Lib.hid (show rightB o = false by rw [HR0.out]; simp only [decide_eq_true hp, decide_eq_false hq, decide_eq_true h1, decide_eq_true h2, Bool.false_and, Bool.and_false, Bool.true_and])
  clear hp hq h1 h2
  go_enter Tryz.func41, Tryz.ntmps41
  go_upto_region 1 with ((with_reducible show wpList _ _ _ (_ :: _) _ _); refine wpl_box rfl 35 (.tmp 0) rfl _ rfl ?_; intro w1 hk hg hz; have K1 := Lib.hid hk; have G1 := Lib.hid hg; clear hk hg hz)
  have X := Lib.hid (show RgCtx w w1 o A c B d from ⟨bl_n (Below.refl _ _) G1.out, H.out.below (bl_n (Below.refl _ _) G1.out), K1.out⟩)
  have c0 := K1.out.cell (i := 0) (v := .int .u8 o.kind) rfl
  have c1 := K1.out.cell (i := 1) (v := .int .i64 o.pos) rfl
  have c2 := K1.out.cell (i := 2) (v := .int .i64 o.n) rfl
  have c3 := K1.out.cell (i := 3) (v := .int .i64 o.snap) rfl
  have c4 := K1.out.cell (i := 4) (v := .slice A o.news.length c) rfl
  have c5 := K1.out.cell (i := 5) (v := .slice B o.puts.length d) rfl
  clear G1 K1

  go_wp2_with fail
  go_ret
  unfold RgPost
  rw [HR.out]
  exact ⟨rfl, X.out.low⟩

set_option maxRecDepth 100000 in
set_option maxHeartbeats 1000000 in
theorem right_511 {w : World} {o : OpV} {A : Option Addr} {c : Nat} {B : Option Addr} {d : Nat} (h : OpAt w o A c B d) (hn : o.news.length ≤ 100000000) (hm : o.puts.length ≤ 100000000) (hp : o.pos = 0) (hq : o.n ≠ 0) (h1 : o.news.length = 0) (h2 : o.puts.length ≠ 0) (hk : o.kind = 5) :
    Calls Tryz.prog 41 #[.agg (opC o A c B d).toArray] w (RgPost o w) := by
  have H := Lib.hid h
  clear h

  have ep : (o.pos == 0) = true := beq_iff_eq.2 hp
  have eq : (o.n == 0) = false := beq_eq_false_iff_ne.2 hq
  have el : ((o.news.length : Int) == 0) = true := beq_iff_eq.2 (by omega)
  have em : ((o.puts.length : Int) == 0) = false := beq_eq_false_iff_ne.2 (by omega)
  have e1 : (o.kind == 1) = false := beq_eq_false_iff_ne.2 (by omega)
  have e2 : (o.kind == 2) = false := beq_eq_false_iff_ne.2 (by omega)
  have e3 : (o.kind == 3) = false := beq_eq_false_iff_ne.2 (by omega)
  have e4 : (o.kind == 4) = false := beq_eq_false_iff_ne.2 (by omega)
  have e5 : (o.kind == 5) = true := beq_iff_eq.2 hk
  have HR0 := Lib.hid (show rightB o = (decide (o.news.length = 0) && decide (o.puts.length = 0) && decide (o.pos = 0) && decide (o.n = 0) && inB o.snap 1 1073741824) by unfold rightB; rw [if_neg (by omega), if_neg (by omega), if_pos (by omega)])
  clear hk
  have HR := Lib.hid (show rightB o = false by rw [HR0.out]; simp only [decide_eq_true hp, decide_eq_false hq, decide_eq_true h1, decide_eq_false h2, Bool.false_and, Bool.and_false, Bool.true_and])
  clear hp hq h1 h2
  go_enter Tryz.func41, Tryz.ntmps41
  go_upto_region 1 with ((with_reducible show wpList _ _ _ (_ :: _) _ _); refine wpl_box rfl 35 (.tmp 0) rfl _ rfl ?_; intro w1 hk hg hz; have K1 := Lib.hid hk; have G1 := Lib.hid hg; clear hk hg hz)
  have X := Lib.hid (show RgCtx w w1 o A c B d from ⟨bl_n (Below.refl _ _) G1.out, H.out.below (bl_n (Below.refl _ _) G1.out), K1.out⟩)
  have c0 := K1.out.cell (i := 0) (v := .int .u8 o.kind) rfl
  have c1 := K1.out.cell (i := 1) (v := .int .i64 o.pos) rfl
  have c2 := K1.out.cell (i := 2) (v := .int .i64 o.n) rfl
  have c3 := K1.out.cell (i := 3) (v := .int .i64 o.snap) rfl
  have c4 := K1.out.cell (i := 4) (v := .slice A o.news.length c) rfl
  have c5 := K1.out.cell (i := 5) (v := .slice B o.puts.length d) rfl
  clear G1 K1

  go_wp2_with fail
  go_ret
  unfold RgPost
  rw [HR.out]
  exact ⟨rfl, X.out.low⟩

set_option maxRecDepth 100000 in
set_option maxHeartbeats 1000000 in
theorem right_512 {w : World} {o : OpV} {A : Option Addr} {c : Nat} {B : Option Addr} {d : Nat} (h : OpAt w o A c B d) (hn : o.news.length ≤ 100000000) (hm : o.puts.length ≤ 100000000) (hp : o.pos = 0) (hq : o.n ≠ 0) (h1 : o.news.length ≠ 0) (hk : o.kind = 5) :
    Calls Tryz.prog 41 #[.agg (opC o A c B d).toArray] w (RgPost o w) := by
  have H := Lib.hid h
  clear h

  have ep : (o.pos == 0) = true := beq_iff_eq.2 hp
  have eq : (o.n == 0) = false := beq_eq_false_iff_ne.2 hq
  have el : ((o.news.length : Int) == 0) = false := beq_eq_false_iff_ne.2 (by omega)
  have e1 : (o.kind == 1) = false := beq_eq_false_iff_ne.2 (by omega)
  have e2 : (o.kind == 2) = false := beq_eq_false_iff_ne.2 (by omega)
  have e3 : (o.kind == 3) = false := beq_eq_false_iff_ne.2 (by omega)
  have e4 : (o.kind == 4) = false := beq_eq_false_iff_ne.2 (by omega)
  have e5 : (o.kind == 5) = true := beq_iff_eq.2 hk
  have HR0 := Lib.hid (show rightB o = (decide (o.news.length = 0) && decide (o.puts.length = 0) && decide (o.pos = 0) && decide (o.n = 0) && inB o.snap 1 1073741824) by unfold rightB; rw [if_neg (by omega), if_neg (by omega), if_pos (by omega)])
  clear hk
  have HR := Lib.hid (show rightB o = false by rw [HR0.out]; simp only [decide_eq_true hp, decide_eq_false hq, decide_eq_false h1, Bool.false_and, Bool.and_false, Bool.true_and])
  clear hp hq h1
  go_enter Tryz.func41, Tryz.ntmps41
  go_upto_region 1 with ((with_reducible show wpList _ _ _ (_ :: _) _ _); refine wpl_box rfl 35 (.tmp 0) rfl _ rfl ?_; intro w1 hk hg hz; have K1 := Lib.hid hk; have G1 := Lib.hid hg; clear hk hg hz)
  have X := Lib.hid (show RgCtx w w1 o A c B d from ⟨bl_n (Below.refl _ _) G1.out, H.out.below (bl_n (Below.refl _ _) G1.out), K1.out⟩)
  have c0 := K1.out.cell (i := 0) (v := .int .u8 o.kind) rfl
  have c1 := K1.out.cell (i := 1) (v := .int .i64 o.pos) rfl
  have c2 := K1.out.cell (i := 2) (v := .int .i64 o.n) rfl
  have c3 := K1.out.cell (i := 3) (v := .int .i64 o.snap) rfl
  have c4 := K1.out.cell (i := 4) (v := .slice A o.news.length c) rfl
  have c5 := K1.out.cell (i := 5) (v := .slice B o.puts.length d) rfl
  clear G1 K1

  go_wp2_with fail
  go_ret
  unfold RgPost
  rw [HR.out]
  exact ⟨rfl, X.out.low⟩

set_option maxRecDepth 100000 in
set_option maxHeartbeats 1000000 in
theorem right_520 {w : World} {o : OpV} {A : Option Addr} {c : Nat} {B : Option Addr} {d : Nat} (h : OpAt w o A c B d) (hn : o.news.length ≤ 100000000) (hm : o.puts.length ≤ 100000000) (hp : o.pos ≠ 0) (h1 : o.news.length = 0) (h2 : o.puts.length = 0) (hk : o.kind = 5) :
    Calls Tryz.prog 41 #[.agg (opC o A c B d).toArray] w (RgPost o w) := by
  have H := Lib.hid h
  clear h

  have ep : (o.pos == 0) = false := beq_eq_false_iff_ne.2 hp
  have el : ((o.news.length : Int) == 0) = true := beq_iff_eq.2 (by omega)
  have em : ((o.puts.length : Int) == 0) = true := beq_iff_eq.2 (by omega)
  have e1 : (o.kind == 1) = false := beq_eq_false_iff_ne.2 (by omega)
  have e2 : (o.kind == 2) = false := beq_eq_false_iff_ne.2 (by omega)
  have e3 : (o.kind == 3) = false := beq_eq_false_iff_ne.2 (by omega)
  have e4 : (o.kind == 4) = false := beq_eq_false_iff_ne.2 (by omega)
  have e5 : (o.kind == 5) = true := beq_iff_eq.2 hk
  have HR0 := Lib.hid (show rightB o = (decide (o.news.length = 0) && decide (o.puts.length = 0) && decide (o.pos = 0) && decide (o.n = 0) && inB o.snap 1 1073741824) by unfold rightB; rw [if_neg (by omega), if_neg (by omega), if_pos (by omega)])
  clear hk
  have HR := Lib.hid (show rightB o = false by rw [HR0.out]; simp only [decide_eq_false hp, decide_eq_true h1, decide_eq_true h2, Bool.false_and, Bool.and_false, Bool.true_and])
  clear hp h1 h2
  go_enter Tryz.func41, Tryz.ntmps41
  go_upto_region 1 with ((with_reducible show wpList _ _ _ (_ :: _) _ _); refine wpl_box rfl 35 (.tmp 0) rfl _ rfl ?_; intro w1 hk hg hz; have K1 := Lib.hid hk; have G1 := Lib.hid hg; clear hk hg hz)
  have X := Lib.hid (show RgCtx w w1 o A c B d from ⟨bl_n (Below.refl _ _) G1.out, H.out.below (bl_n (Below.refl _ _) G1.out), K1.out⟩)
  have c0 := K1.out.cell (i := 0) (v := .int .u8 o.kind) rfl
  have c1 := K1.out.cell (i := 1) (v := .int .i64 o.pos) rfl
  have c2 := K1.out.cell (i := 2) (v := .int .i64 o.n) rfl
  have c3 := K1.out.cell (i := 3) (v := .int .i64 o.snap) rfl
  have c4 := K1.out.cell (i := 4) (v := .slice A o.news.length c) rfl
  have c5 := K1.out.cell (i := 5) (v := .slice B o.puts.length d) rfl
  clear G1 K1

  go_wp2_with fail
  go_ret
  unfold RgPost
  rw [HR.out]
  exact ⟨rfl, X.out.low⟩

set_option maxRecDepth 100000 in
set_option maxHeartbeats 1000000 in
theorem right_521 {w : World} {o : OpV} {A : Option Addr} {c : Nat} {B : Option Addr} {d : Nat} (h : OpAt w o A c B d) (hn : o.news.length ≤ 100000000) (hm : o.puts.length ≤ 100000000) (hp : o.pos ≠ 0) (h1 : o.news.length = 0) (h2 : o.puts.length ≠ 0) (hk : o.kind = 5) :
    Calls Tryz.prog 41 #[.agg (opC o A c B d).toArray] w (RgPost o w) := by
  have H := Lib.hid h
  clear h

  have ep : (o.pos == 0) = false := beq_eq_false_iff_ne.2 hp
  have el : ((o.news.length : Int) == 0) = true := beq_iff_eq.2 (by omega)
  have em : ((o.puts.length : Int) == 0) = false := beq_eq_false_iff_ne.2 (by omega)
  have e1 : (o.kind == 1) = false := beq_eq_false_iff_ne.2 (by omega)
  have e2 : (o.kind == 2) = false := beq_eq_false_iff_ne.2 (by omega)
  have e3 : (o.kind == 3) = false := beq_eq_false_iff_ne.2 (by omega)
  have e4 : (o.kind == 4) = false := beq_eq_false_iff_ne.2 (by omega)
  have e5 : (o.kind == 5) = true := beq_iff_eq.2 hk
  have HR0 := Lib.hid (show rightB o = (decide (o.news.length = 0) && decide (o.puts.length = 0) && decide (o.pos = 0) && decide (o.n = 0) && inB o.snap 1 1073741824) by unfold rightB; rw [if_neg (by omega), if_neg (by omega), if_pos (by omega)])
  clear hk
  have HR := Lib.hid (show rightB o = false by rw [HR0.out]; simp only [decide_eq_false hp, decide_eq_true h1, decide_eq_false h2, Bool.false_and, Bool.and_false, Bool.true_and])
  clear hp h1 h2
  go_enter Tryz.func41, Tryz.ntmps41
  go_upto_region 1 with ((with_reducible show wpList _ _ _ (_ :: _) _ _); refine wpl_box rfl 35 (.tmp 0) rfl _ rfl ?_; intro w1 hk hg hz; have K1 := Lib.hid hk; have G1 := Lib.hid hg; clear hk hg hz)
  have X := Lib.hid (show RgCtx w w1 o A c B d from ⟨bl_n (Below.refl _ _) G1.out, H.out.below (bl_n (Below.refl _ _) G1.out), K1.out⟩)
  have c0 := K1.out.cell (i := 0) (v := .int .u8 o.kind) rfl
  have c1 := K1.out.cell (i := 1) (v := .int .i64 o.pos) rfl
  have c2 := K1.out.cell (i := 2) (v := .int .i64 o.n) rfl
  have c3 := K1.out.cell (i := 3) (v := .int .i64 o.snap) rfl
  have c4 := K1.out.cell (i := 4) (v := .slice A o.news.length c) rfl
  have c5 := K1.out.cell (i := 5) (v := .slice B o.puts.length d) rfl
  clear G1 K1

  go_wp2_with fail
  go_ret
  unfold RgPost
  rw [HR.out]
  exact ⟨rfl, X.out.low⟩

set_option maxRecDepth 100000 in
set_option maxHeartbeats 1000000 in
theorem right_522 {w : World} {o : OpV} {A : Option Addr} {c : Nat} {B : Option Addr} {d : Nat} (h : OpAt w o A c B d) (hn : o.news.length ≤ 100000000) (hm : o.puts.length ≤ 100000000) (hp : o.pos ≠ 0) (h1 : o.news.length ≠ 0) (hk : o.kind = 5) :
    Calls Tryz.prog 41 #[.agg (opC o A c B d).toArray] w (RgPost o w) := by
  have H := Lib.hid h
  clear h

  have ep : (o.pos == 0) = false := beq_eq_false_iff_ne.2 hp
  have el : ((o.news.length : Int) == 0) = false := beq_eq_false_iff_ne.2 (by omega)
  have e1 : (o.kind == 1) = false := beq_eq_false_iff_ne.2 (by omega)
  have e2 : (o.kind == 2) = false := beq_eq_false_iff_ne.2 (by omega)
  have e3 : (o.kind == 3) = false := beq_eq_false_iff_ne.2 (by omega)
  have e4 : (o.kind == 4) = false := beq_eq_false_iff_ne.2 (by omega)
  have e5 : (o.kind == 5) = true := beq_iff_eq.2 hk
  have HR0 := Lib.hid (show rightB o = (decide (o.news.length = 0) && decide (o.puts.length = 0) && decide (o.pos = 0) && decide (o.n = 0) && inB o.snap 1 1073741824) by unfold rightB; rw [if_neg (by omega), if_neg (by omega), if_pos (by omega)])
  clear hk
  have HR := Lib.hid (show rightB o = false by rw [HR0.out]; simp only [decide_eq_false hp, decide_eq_false h1, Bool.false_and, Bool.and_false, Bool.true_and])
  clear hp h1
  go_enter Tryz.func41, Tryz.ntmps41
  go_upto_region 1 with ((with_reducible show wpList _ _ _ (_ :: _) _ _); refine wpl_box rfl 35 (.tmp 0) rfl _ rfl ?_; intro w1 hk hg hz; have K1 := Lib.hid hk; have G1 := Lib.hid hg; clear hk hg hz)
  have X := Lib.hid (show RgCtx w w1 o A c B d from ⟨bl_n (Below.refl _ _) G1.out, H.out.below (bl_n (Below.refl _ _) G1.out), K1.out⟩)
  have c0 := K1.out.cell (i := 0) (v := .int .u8 o.kind) rfl
  have c1 := K1.out.cell (i := 1) (v := .int .i64 o.pos) rfl
  have c2 := K1.out.cell (i := 2) (v := .int .i64 o.n) rfl
  have c3 := K1.out.cell (i := 3) (v := .int .i64 o.snap) rfl
  have c4 := K1.out.cell (i := 4) (v := .slice A o.news.length c) rfl
  have c5 := K1.out.cell (i := 5) (v := .slice B o.puts.length d) rfl
  clear G1 K1

  go_wp2_with fail
  go_ret
  unfold RgPost
  rw [HR.out]
  exact ⟨rfl, X.out.low⟩

set_option maxRecDepth 100000 in
set_option maxHeartbeats 1000000 in
theorem right_000 {w : World} {o : OpV} {A : Option Addr} {c : Nat} {B : Option Addr} {d : Nat} (h : OpAt w o A c B d) (hn : o.news.length ≤ 100000000) (hm : o.puts.length ≤ 100000000) (hp : o.pos = 0) (hq : o.n = 0) (h1 : o.news.length = 0) (h2 : o.puts.length = 0) (hk : o.kind ≠ 1 ∧ o.kind ≠ 2 ∧ o.kind ≠ 3 ∧ o.kind ≠ 4 ∧ o.kind ≠ 5) :
    Calls Tryz.prog 41 #[.agg (opC o A c B d).toArray] w (RgPost o w) := by
  have H := Lib.hid h
  clear h

  have ep : (o.pos == 0) = true := beq_iff_eq.2 hp
  have eq : (o.n == 0) = true := beq_iff_eq.2 hq
  have el : ((o.news.length : Int) == 0) = true := beq_iff_eq.2 (by omega)
  have em : ((o.puts.length : Int) == 0) = true := beq_iff_eq.2 (by omega)
  obtain ⟨q1, q2, q3, q4, q5⟩ := hk
  have e1 : (o.kind == 1) = false := beq_eq_false_iff_ne.2 q1
  have e2 : (o.kind == 2) = false := beq_eq_false_iff_ne.2 q2
  have e3 : (o.kind == 3) = false := beq_eq_false_iff_ne.2 q3
  have e4 : (o.kind == 4) = false := beq_eq_false_iff_ne.2 q4
  have e5 : (o.kind == 5) = false := beq_eq_false_iff_ne.2 q5
  have HR0 := Lib.hid (show rightB o = false by unfold rightB; rw [if_neg q1, if_neg q2, if_neg (by omega)])
  clear q1 q2 q3 q4 q5
  have HR := HR0
  clear hp hq h1 h2
  go_enter Tryz.func41, Tryz.ntmps41
  go_upto_region 1 with ((with_reducible show wpList _ _ _ (_ :: _) _ _); refine wpl_box rfl 35 (.tmp 0) rfl _ rfl ?_; intro w1 hk hg hz; have K1 := Lib.hid hk; have G1 := Lib.hid hg; clear hk hg hz)
  have X := Lib.hid (show RgCtx w w1 o A c B d from ⟨bl_n (Below.refl _ _) G1.out, H.out.below (bl_n (Below.refl _ _) G1.out), K1.out⟩)
  have c0 := K1.out.cell (i := 0) (v := .int .u8 o.kind) rfl
  have c1 := K1.out.cell (i := 1) (v := .int .i64 o.pos) rfl
  have c2 := K1.out.cell (i := 2) (v := .int .i64 o.n) rfl
  have c3 := K1.out.cell (i := 3) (v := .int .i64 o.snap) rfl
  have c4 := K1.out.cell (i := 4) (v := .slice A o.news.length c) rfl
  have c5 := K1.out.cell (i := 5) (v := .slice B o.puts.length d) rfl
  clear G1 K1

  go_wp2_with fail
  go_ret
  unfold RgPost
  rw [HR.out]
  exact ⟨rfl, X.out.low⟩

set_option maxRecDepth 100000 in
set_option maxHeartbeats 1000000 in
theorem right_001 {w : World} {o : OpV} {A : Option Addr} {c : Nat} {B : Option Addr} {d : Nat} (h : OpAt w o A c B d) (hn : o.news.length ≤ 100000000) (hm : o.puts.length ≤ 100000000) (hp : o.pos = 0) (hq : o.n = 0) (h1 : o.news.length = 0) (h2 : o.puts.length ≠ 0) (hk : o.kind ≠ 1 ∧ o.kind ≠ 2 ∧ o.kind ≠ 3 ∧ o.kind ≠ 4 ∧ o.kind ≠ 5) :
    Calls Tryz.prog 41 #[.agg (opC o A c B d).toArray] w (RgPost o w) := by
  have H := Lib.hid h
  clear h

  have ep : (o.pos == 0) = true := beq_iff_eq.2 hp
  have eq : (o.n == 0) = true := beq_iff_eq.2 hq
  have el : ((o.news.length : Int) == 0) = true := beq_iff_eq.2 (by omega)
  have em : ((o.puts.length : Int) == 0) = false := beq_eq_false_iff_ne.2 (by omega)
  obtain ⟨q1, q2, q3, q4, q5⟩ := hk
  have e1 : (o.kind == 1) = false := beq_eq_false_iff_ne.2 q1
  have e2 : (o.kind == 2) = false := beq_eq_false_iff_ne.2 q2
  have e3 : (o.kind == 3) = false := beq_eq_false_iff_ne.2 q3
  have e4 : (o.kind == 4) = false := beq_eq_false_iff_ne.2 q4
  have e5 : (o.kind == 5) = false := beq_eq_false_iff_ne.2 q5
  have HR0 := Lib.hid (show rightB o = false by unfold rightB; rw [if_neg q1, if_neg q2, if_neg (by omega)])
  clear q1 q2 q3 q4 q5
  have HR := HR0
  clear hp hq h1 h2
  go_enter Tryz.func41, Tryz.ntmps41
  go_upto_region 1 with ((with_reducible show wpList _ _ _ (_ :: _) _ _); refine wpl_box rfl 35 (.tmp 0) rfl _ rfl ?_; intro w1 hk hg hz; have K1 := Lib.hid hk; have G1 := Lib.hid hg; clear hk hg hz)
  have X := Lib.hid (show RgCtx w w1 o A c B d from ⟨bl_n (Below.refl _ _) G1.out, H.out.below (bl_n (Below.refl _ _) G1.out), K1.out⟩)
  have c0 := K1.out.cell (i := 0) (v := .int .u8 o.kind) rfl
  have c1 := K1.out.cell (i := 1) (v := .int .i64 o.pos) rfl
  have c2 := K1.out.cell (i := 2) (v := .int .i64 o.n) rfl
  have c3 := K1.out.cell (i := 3) (v := .int .i64 o.snap) rfl
  have c4 := K1.out.cell (i := 4) (v := .slice A o.news.length c) rfl
  have c5 := K1.out.cell (i := 5) (v := .slice B o.puts.length d) rfl
  clear G1 K1

  go_wp2_with fail
  go_ret
  unfold RgPost
  rw [HR.out]
  exact ⟨rfl, X.out.low⟩

set_option maxRecDepth 100000 in
set_option maxHeartbeats 1000000 in
theorem right_002 {w : World} {o : OpV} {A : Option Addr} {c : Nat} {B : Option Addr} {d : Nat} (h : OpAt w o A c B d) (hn : o.news.length ≤ 100000000) (hm : o.puts.length ≤ 100000000) (hp : o.pos = 0) (hq : o.n = 0) (h1 : o.news.length ≠ 0) (hk : o.kind ≠ 1 ∧ o.kind ≠ 2 ∧ o.kind ≠ 3 ∧ o.kind ≠ 4 ∧ o.kind ≠ 5) :
    Calls Tryz.prog 41 #[.agg (opC o A c B d).toArray] w (RgPost o w) := by
  have H := Lib.hid h
  clear h

  have ep : (o.pos == 0) = true := beq_iff_eq.2 hp
  have eq : (o.n == 0) = true := beq_iff_eq.2 hq
  have el : ((o.news.length : Int) == 0) = false := beq_eq_false_iff_ne.2 (by omega)
  obtain ⟨q1, q2, q3, q4, q5⟩ := hk
  have e1 : (o.kind == 1) = false := beq_eq_false_iff_ne.2 q1
  have e2 : (o.kind == 2) = false := beq_eq_false_iff_ne.2 q2
  have e3 : (o.kind == 3) = false := beq_eq_false_iff_ne.2 q3
  have e4 : (o.kind == 4) = false := beq_eq_false_iff_ne.2 q4
  have e5 : (o.kind == 5) = false := beq_eq_false_iff_ne.2 q5
  have HR0 := Lib.hid (show rightB o = false by unfold rightB; rw [if_neg q1, if_neg q2, if_neg (by omega)])
  clear q1 q2 q3 q4 q5
  have HR := HR0
  clear hp hq h1
  go_enter Tryz.func41, Tryz.ntmps41
  go_upto_region 1 with ((with_reducible show wpList _ _ _ (_ :: _) _ _); refine wpl_box rfl 35 (.tmp 0) rfl _ rfl ?_; intro w1 hk hg hz; have K1 := Lib.hid hk; have G1 := Lib.hid hg; clear hk hg hz)
  have X := Lib.hid (show RgCtx w w1 o A c B d from ⟨bl_n (Below.refl _ _) G1.out, H.out.below (bl_n (Below.refl _ _) G1.out), K1.out⟩)
  have c0 := K1.out.cell (i := 0) (v := .int .u8 o.kind) rfl
  have c1 := K1.out.cell (i := 1) (v := .int .i64 o.pos) rfl
  have c2 := K1.out.cell (i := 2) (v := .int .i64 o.n) rfl
  have c3 := K1.out.cell (i := 3) (v := .int .i64 o.snap) rfl
  have c4 := K1.out.cell (i := 4) (v := .slice A o.news.length c) rfl
  have c5 := K1.out.cell (i := 5) (v := .slice B o.puts.length d) rfl
  clear G1 K1

  go_wp2_with fail
  go_ret
  unfold RgPost
  rw [HR.out]
  exact ⟨rfl, X.out.low⟩

set_option maxRecDepth 100000 in
set_option maxHeartbeats 1000000 in
theorem right_010 {w : World} {o : OpV} {A : Option Addr} {c : Nat} {B : Option Addr} {d : Nat} (h : OpAt w o A c B d) (hn : o.news.length ≤ 100000000) (hm : o.puts.length ≤ 100000000) (hp : o.pos = 0) (hq : o.n ≠ 0) (h1 : o.news.length = 0) (h2 : o.puts.length = 0) (hk : o.kind ≠ 1 ∧ o.kind ≠ 2 ∧ o.kind ≠ 3 ∧ o.kind ≠ 4 ∧ o.kind ≠ 5) :
    Calls Tryz.prog 41 #[.agg (opC o A c B d).toArray] w (RgPost o w) := by
  have H := Lib.hid h
  clear h

  have ep : (o.pos == 0) = true := beq_iff_eq.2 hp
  have eq : (o.n == 0) = false := beq_eq_false_iff_ne.2 hq
  have el : ((o.news.length : Int) == 0) = true := beq_iff_eq.2 (by omega)
  have em : ((o.puts.length : Int) == 0) = true := beq_iff_eq.2 (by omega)
  obtain ⟨q1, q2, q3, q4, q5⟩ := hk
  have e1 : (o.kind == 1) = false := beq_eq_false_iff_ne.2 q1
  have e2 : (o.kind == 2) = false := beq_eq_false_iff_ne.2 q2
  have e3 : (o.kind == 3) = false := beq_eq_false_iff_ne.2 q3
  have e4 : (o.kind == 4) = false := beq_eq_false_iff_ne.2 q4
  have e5 : (o.kind == 5) = false := beq_eq_false_iff_ne.2 q5
  have HR0 := Lib.hid (show rightB o = false by unfold rightB; rw [if_neg q1, if_neg q2, if_neg (by omega)])
  clear q1 q2 q3 q4 q5
  have HR := HR0
  clear hp hq h1 h2
  go_enter Tryz.func41, Tryz.ntmps41
  go_upto_region 1 with ((with_reducible show wpList _ _ _ (_ :: _) _ _); refine wpl_box rfl 35 (.tmp 0) rfl _ rfl ?_; intro w1 hk hg hz; have K1 := Lib.hid hk; have G1 := Lib.hid hg; clear hk hg hz)
  have X := Lib.hid (show RgCtx w w1 o A c B d from ⟨bl_n (Below.refl _ _) G1.out, H.out.below (bl_n (Below.refl _ _) G1.out), K1.out⟩)
  have c0 := K1.out.cell (i := 0) (v := .int .u8 o.kind) rfl
  have c1 := K1.out.cell (i := 1) (v := .int .i64 o.pos) rfl
  have c2 := K1.out.cell (i := 2) (v := .int .i64 o.n) rfl
  have c3 := K1.out.cell (i := 3) (v := .int .i64 o.snap) rfl
  have c4 := K1.out.cell (i := 4) (v := .slice A o.news.length c) rfl
  have c5 := K1.out.cell (i := 5) (v := .slice B o.puts.length d) rfl
  clear G1 K1

  go_wp2_with fail
  go_ret
  unfold RgPost
  rw [HR.out]
  exact ⟨rfl, X.out.low⟩

set_option maxRecDepth 100000 in
set_option maxHeartbeats 1000000 in
theorem right_011 {w : World} {o : OpV} {A : Option Addr} {c : Nat} {B : Option Addr} {d : Nat} (h : OpAt w o A c B d) (hn : o.news.length ≤ 100000000) (hm : o.puts.length ≤ 100000000) (hp : o.pos = 0) (hq : o.n ≠ 0) (h1 : o.news.length = 0) (h2 : o.puts.length ≠ 0) (hk : o.kind ≠ 1 ∧ o.kind ≠ 2 ∧ o.kind ≠ 3 ∧ o.kind ≠ 4 ∧ o.kind ≠ 5) :
    Calls Tryz.prog 41 #[.agg (opC o A c B d).toArray] w (RgPost o w) := by
  have H := Lib.hid h
  clear h

  have ep : (o.pos == 0) = true := beq_iff_eq.2 hp
  have eq : (o.n == 0) = false := beq_eq_false_iff_ne.2 hq
  have el : ((o.news.length : Int) == 0) = true := beq_iff_eq.2 (by omega)
  have em : ((o.puts.length : Int) == 0) = false := beq_eq_false_iff_ne.2 (by omega)
  obtain ⟨q1, q2, q3, q4, q5⟩ := hk
  have e1 : (o.kind == 1) = false := beq_eq_false_iff_ne.2 q1
  have e2 : (o.kind == 2) = false := beq_eq_false_iff_ne.2 q2
  have e3 : (o.kind == 3) = false := beq_eq_false_iff_ne.2 q3
  have e4 : (o.kind == 4) = false := beq_eq_false_iff_ne.2 q4
  have e5 : (o.kind == 5) = false := beq_eq_false_iff_ne.2 q5
  have HR0 := Lib.hid (show rightB o = false by unfold rightB; rw [if_neg q1, if_neg q2, if_neg (by omega)])
  clear q1 q2 q3 q4 q5
  have HR := HR0
  clear hp hq h1 h2
  go_enter Tryz.func41, Tryz.ntmps41
  go_upto_region 1 with ((with_reducible show wpList _ _ _ (_ :: _) _ _); refine wpl_box rfl 35 (.tmp 0) rfl _ rfl ?_; intro w1 hk hg hz; have K1 := Lib.hid hk; have G1 := Lib.hid hg; clear hk hg hz)
  have X := Lib.hid (show RgCtx w w1 o A c B d from ⟨bl_n (Below.refl _ _) G1.out, H.out.below (bl_n (Below.refl _ _) G1.out), K1.out⟩)
  have c0 := K1.out.cell (i := 0) (v := .int .u8 o.kind) rfl
  have c1 := K1.out.cell (i := 1) (v := .int .i64 o.pos) rfl
  have c2 := K1.out.cell (i := 2) (v := .int .i64 o.n) rfl
  have c3 := K1.out.cell (i := 3) (v := .int .i64 o.snap) rfl
  have c4 := K1.out.cell (i := 4) (v := .slice A o.news.length c) rfl
  have c5 := K1.out.cell (i := 5) (v := .slice B o.puts.length d) rfl
  clear G1 K1

  go_wp2_with fail
  go_ret
  unfold RgPost
  rw [HR.out]
  exact ⟨rfl, X.out.low⟩

set_option maxRecDepth 100000 in
set_option maxHeartbeats 1000000 in
theorem right_012 {w : World} {o : OpV} {A : Option Addr} {c : Nat} {B : Option Addr} {d : Nat} (h : OpAt w o A c B d) (hn : o.news.length ≤ 100000000) (hm : o.puts.length ≤ 100000000) (hp : o.pos = 0) (hq : o.n ≠ 0) (h1 : o.news.length ≠ 0) (hk : o.kind ≠ 1 ∧ o.kind ≠ 2 ∧ o.kind ≠ 3 ∧ o.kind ≠ 4 ∧ o.kind ≠ 5) :
    Calls Tryz.prog 41 #[.agg (opC o A c B d).toArray] w (RgPost o w) := by
  have H := Lib.hid h
  clear h

  have ep : (o.pos == 0) = true := beq_iff_eq.2 hp
  have eq : (o.n == 0) = false := beq_eq_false_iff_ne.2 hq
  have el : ((o.news.length : Int) == 0) = false := beq_eq_false_iff_ne.2 (by omega)
  obtain ⟨q1, q2, q3, q4, q5⟩ := hk
  have e1 : (o.kind == 1) = false := beq_eq_false_iff_ne.2 q1
  have e2 : (o.kind == 2) = false := beq_eq_false_iff_ne.2 q2
  have e3 : (o.kind == 3) = false := beq_eq_false_iff_ne.2 q3
  have e4 : (o.kind == 4) = false := beq_eq_false_iff_ne.2 q4
  have e5 : (o.kind == 5) = false := beq_eq_false_iff_ne.2 q5
  have HR0 := Lib.hid (show rightB o = false by unfold rightB; rw [if_neg q1, if_neg q2, if_neg (by omega)])
  clear q1 q2 q3 q4 q5
  have HR := HR0
  clear hp hq h1
  go_enter Tryz.func41, Tryz.ntmps41
  go_upto_region 1 with ((with_reducible show wpList _ _ _ (_ :: _) _ _); refine wpl_box rfl 35 (.tmp 0) rfl _ rfl ?_; intro w1 hk hg hz; have K1 := Lib.hid hk; have G1 := Lib.hid hg; clear hk hg hz)
  have X := Lib.hid (show RgCtx w w1 o A c B d from ⟨bl_n (Below.refl _ _) G1.out, H.out.below (bl_n (Below.refl _ _) G1.out), K1.out⟩)
  have c0 := K1.out.cell (i := 0) (v := .int .u8 o.kind) rfl
  have c1 := K1.out.cell (i := 1) (v := .int .i64 o.pos) rfl
  have c2 := K1.out.cell (i := 2) (v := .int .i64 o.n) rfl
  have c3 := K1.out.cell (i := 3) (v := .int .i64 o.snap) rfl
  have c4 := K1.out.cell (i := 4) (v := .slice A o.news.length c) rfl
  have c5 := K1.out.cell (i := 5) (v := .slice B o.puts.length d) rfl
  clear G1 K1

  go_wp2_with fail
  go_ret
  unfold RgPost
  rw [HR.out]
  exact ⟨rfl, X.out.low⟩

set_option maxRecDepth 100000 in
set_option maxHeartbeats 1000000 in
theorem right_020 {w : World} {o : OpV} {A : Option Addr} {c : Nat} {B : Option Addr} {d : Nat} (h : OpAt w o A c B d) (hn : o.news.length ≤ 100000000) (hm : o.puts.length ≤ 100000000) (hp : o.pos ≠ 0) (h1 : o.news.length = 0) (h2 : o.puts.length = 0) (hk : o.kind ≠ 1 ∧ o.kind ≠ 2 ∧ o.kind ≠ 3 ∧ o.kind ≠ 4 ∧ o.kind ≠ 5) :
    Calls Tryz.prog 41 #[.agg (opC o A c B d).toArray] w (RgPost o w) := by
  have H := Lib.hid h
  clear h

  have ep : (o.pos == 0) = false := beq_eq_false_iff_ne.2 hp
  have el : ((o.news.length : Int) == 0) = true := beq_iff_eq.2 (by omega)
  have em : ((o.puts.length : Int) == 0) = true := beq_iff_eq.2 (by omega)
  obtain ⟨q1, q2, q3, q4, q5⟩ := hk
  have e1 : (o.kind == 1) = false := beq_eq_false_iff_ne.2 q1
  have e2 : (o.kind == 2) = false := beq_eq_false_iff_ne.2 q2
  have e3 : (o.kind == 3) = false := beq_eq_false_iff_ne.2 q3
  have e4 : (o.kind == 4) = false := beq_eq_false_iff_ne.2 q4
  have e5 : (o.kind == 5) = false := beq_eq_false_iff_ne.2 q5
  have HR0 := Lib.hid (show rightB o = false by unfold rightB; rw [if_neg q1, if_neg q2, if_neg (by omega)])
  clear q1 q2 q3 q4 q5
  have HR := HR0
  clear hp h1 h2
  go_enter Tryz.func41, Tryz.ntmps41
  go_upto_region 1 with ((with_reducible show wpList _ _ _ (_ :: _) _ _); refine wpl_box rfl 35 (.tmp 0) rfl _ rfl ?_; intro w1 hk hg hz; have K1 := Lib.hid hk; have G1 := Lib.hid hg; clear hk hg hz)
  have X := Lib.hid (show RgCtx w w1 o A c B d from ⟨bl_n (Below.refl _ _) G1.out, H.out.below (bl_n (Below.refl _ _) G1.out), K1.out⟩)
  have c0 := K1.out.cell (i := 0) (v := .int .u8 o.kind) rfl
  have c1 := K1.out.cell (i := 1) (v := .int .i64 o.pos) rfl
  have c2 := K1.out.cell (i := 2) (v := .int .i64 o.n) rfl
  have c3 := K1.out.cell (i := 3) (v := .int .i64 o.snap) rfl
  have c4 := K1.out.cell (i := 4) (v := .slice A o.news.length c) rfl
  have c5 := K1.out.cell (i := 5) (v := .slice B o.puts.length d) rfl
  clear G1 K1

  go_wp2_with fail
  go_ret
  unfold RgPost
  rw [HR.out]
  exact ⟨rfl, X.out.low⟩

set_option maxRecDepth 100000 in
set_option maxHeartbeats 1000000 in
theorem right_021 {w : World} {o : OpV} {A : Option Addr} {c : Nat} {B : Option Addr} {d : Nat} (h : OpAt w o A c B d) (hn : o.news.length ≤ 100000000) (hm : o.puts.length ≤ 100000000) (hp : o.pos ≠ 0) (h1 : o.news.length = 0) (h2 : o.puts.length ≠ 0) (hk : o.kind ≠ 1 ∧ o.kind ≠ 2 ∧ o.kind ≠ 3 ∧ o.kind ≠ 4 ∧ o.kind ≠ 5) :
    Calls Tryz.prog 41 #[.agg (opC o A c B d).toArray] w (RgPost o w) := by
  have H := Lib.hid h
  clear h

  have ep : (o.pos == 0) = false := beq_eq_false_iff_ne.2 hp
  have el : ((o.news.length : Int) == 0) = true := beq_iff_eq.2 (by omega)
  have em : ((o.puts.length : Int) == 0) = false := beq_eq_false_iff_ne.2 (by omega)
  obtain ⟨q1, q2, q3, q4, q5⟩ := hk
  have e1 : (o.kind == 1) = false := beq_eq_false_iff_ne.2 q1
  have e2 : (o.kind == 2) = false := beq_eq_false_iff_ne.2 q2
  have e3 : (o.kind == 3) = false := beq_eq_false_iff_ne.2 q3
  have e4 : (o.kind == 4) = false := beq_eq_false_iff_ne.2 q4
  have e5 : (o.kind == 5) = false := beq_eq_false_iff_ne.2 q5
  have HR0 := Lib.hid (show rightB o = false by unfold rightB; rw [if_neg q1, if_neg q2, if_neg (by omega)])
  clear q1 q2 q3 q4 q5
  have HR := HR0
  clear hp h1 h2
  go_enter Tryz.func41, Tryz.ntmps41
  go_upto_region 1 with ((with_reducible show wpList _ _ _ (_ :: _) _ _); refine wpl_box rfl 35 (.tmp 0) rfl _ rfl ?_; intro w1 hk hg hz; have K1 := Lib.hid hk; have G1 := Lib.hid hg; clear hk hg hz)
  have X := Lib.hid (show RgCtx w w1 o A c B d from ⟨bl_n (Below.refl _ _) G1.out, H.out.below (bl_n (Below.refl _ _) G1.out), K1.out⟩)
  have c0 := K1.out.cell (i := 0) (v := .int .u8 o.kind) rfl
  have c1 := K1.out.cell (i := 1) (v := .int .i64 o.pos) rfl
  have c2 := K1.out.cell (i := 2) (v := .int .i64 o.n) rfl
  have c3 := K1.out.cell (i := 3) (v := .int .i64 o.snap) rfl
  have c4 := K1.out.cell (i := 4) (v := .slice A o.news.length c) rfl
  have c5 := K1.out.cell (i := 5) (v := .slice B o.puts.length d) rfl
  clear G1 K1

  go_wp2_with fail
  go_ret
  unfold RgPost
  rw [HR.out]
  exact ⟨rfl, X.out.low⟩

set_option maxRecDepth 100000 in
set_option maxHeartbeats 1000000 in
theorem right_022 {w : World} {o : OpV} {A : Option Addr} {c : Nat} {B : Option Addr} {d : Nat} (h : OpAt w o A c B d) (hn : o.news.length ≤ 100000000) (hm : o.puts.length ≤ 100000000) (hp : o.pos ≠ 0) (h1 : o.news.length ≠ 0) (hk : o.kind ≠ 1 ∧ o.kind ≠ 2 ∧ o.kind ≠ 3 ∧ o.kind ≠ 4 ∧ o.kind ≠ 5) :
    Calls Tryz.prog 41 #[.agg (opC o A c B d).toArray] w (RgPost o w) := by
  have H := Lib.hid h
  clear h

  have ep : (o.pos == 0) = false := beq_eq_false_iff_ne.2 hp
  have el : ((o.news.length : Int) == 0) = false := beq_eq_false_iff_ne.2 (by omega)
  obtain ⟨q1, q2, q3, q4, q5⟩ := hk
  have e1 : (o.kind == 1) = false := beq_eq_false_iff_ne.2 q1
  have e2 : (o.kind == 2) = false := beq_eq_false_iff_ne.2 q2
  have e3 : (o.kind == 3) = false := beq_eq_false_iff_ne.2 q3
  have e4 : (o.kind == 4) = false := beq_eq_false_iff_ne.2 q4
  have e5 : (o.kind == 5) = false := beq_eq_false_iff_ne.2 q5
  have HR0 := Lib.hid (show rightB o = false by unfold rightB; rw [if_neg q1, if_neg q2, if_neg (by omega)])
  clear q1 q2 q3 q4 q5
  have HR := HR0
  clear hp h1
  go_enter Tryz.func41, Tryz.ntmps41
  go_upto_region 1 with ((with_reducible show wpList _ _ _ (_ :: _) _ _); refine wpl_box rfl 35 (.tmp 0) rfl _ rfl ?_; intro w1 hk hg hz; have K1 := Lib.hid hk; have G1 := Lib.hid hg; clear hk hg hz)
  have X := Lib.hid (show RgCtx w w1 o A c B d from ⟨bl_n (Below.refl _ _) G1.out, H.out.below (bl_n (Below.refl _ _) G1.out), K1.out⟩)
  have c0 := K1.out.cell (i := 0) (v := .int .u8 o.kind) rfl
  have c1 := K1.out.cell (i := 1) (v := .int .i64 o.pos) rfl
  have c2 := K1.out.cell (i := 2) (v := .int .i64 o.n) rfl
  have c3 := K1.out.cell (i := 3) (v := .int .i64 o.snap) rfl
  have c4 := K1.out.cell (i := 4) (v := .slice A o.news.length c) rfl
  have c5 := K1.out.cell (i := 5) (v := .slice B o.puts.length d) rfl
  clear G1 K1

  go_wp2_with fail
  go_ret
  unfold RgPost
  rw [HR.out]
  exact ⟨rfl, X.out.low⟩

theorem opRight_any {w : World} {o : OpV} {A : Option Addr} {c : Nat} {B : Option Addr} {d : Nat} (h : OpAt w o A c B d) (hn : o.news.length ≤ 100000000) (hm : o.puts.length ≤ 100000000) :
    Calls Tryz.prog 41 #[.agg (opC o A c B d).toArray] w (RgPost o w) := by
  have hkk : o.kind = 1 ∨ o.kind = 2 ∨ o.kind = 3 ∨ o.kind = 4 ∨ o.kind = 5 ∨ (o.kind ≠ 1 ∧ o.kind ≠ 2 ∧ o.kind ≠ 3 ∧ o.kind ≠ 4 ∧ o.kind ≠ 5) := by omega
  by_cases hp : o.pos = 0
  · by_cases hq : o.n = 0
    · by_cases h1 : o.news.length = 0
      · by_cases h2 : o.puts.length = 0
        · rcases hkk with hk | hk | hk | hk | hk | hk
          · by_cases hs : o.snap = 0
            · exact right_100s h hn hm hp hq h1 h2 hk hs
            · exact right_100t h hn hm hp hq h1 h2 hk hs
          · by_cases hs : o.snap = 0
            · exact right_200s h hn hm hp hq h1 h2 hk hs
            · exact right_200t h hn hm hp hq h1 h2 hk hs
          · exact right_300 h hn hm hp hq h1 h2 hk
          · exact right_400 h hn hm hp hq h1 h2 hk
          · exact right_500 h hn hm hp hq h1 h2 hk
          · exact right_000 h hn hm hp hq h1 h2 hk
        · rcases hkk with hk | hk | hk | hk | hk | hk
          · by_cases hs : o.snap = 0
            · exact right_101s h hn hm hp hq h1 h2 hk hs
            · exact right_101t h hn hm hp hq h1 h2 hk hs
          · exact right_201 h hn hm hp hq h1 h2 hk
          · exact right_301 h hn hm hp hq h1 h2 hk
          · exact right_401 h hn hm hp hq h1 h2 hk
          · exact right_501 h hn hm hp hq h1 h2 hk
          · exact right_001 h hn hm hp hq h1 h2 hk
      · rcases hkk with hk | hk | hk | hk | hk | hk
        · by_cases hs : o.snap = 0
          · exact right_102s h hn hm hp hq h1 hk hs
          · exact right_102t h hn hm hp hq h1 hk hs
        · exact right_202 h hn hm hp hq h1 hk
        · exact right_302 h hn hm hp hq h1 hk
        · exact right_402 h hn hm hp hq h1 hk
        · exact right_502 h hn hm hp hq h1 hk
        · exact right_002 h hn hm hp hq h1 hk
    · by_cases h1 : o.news.length = 0
      · by_cases h2 : o.puts.length = 0
        · rcases hkk with hk | hk | hk | hk | hk | hk
          · exact right_110 h hn hm hp hq h1 h2 hk
          · by_cases hs : o.snap = 0
            · exact right_210s h hn hm hp hq h1 h2 hk hs
            · exact right_210t h hn hm hp hq h1 h2 hk hs
          · exact right_310 h hn hm hp hq h1 h2 hk
          · exact right_410 h hn hm hp hq h1 h2 hk
          · exact right_510 h hn hm hp hq h1 h2 hk
          · exact right_010 h hn hm hp hq h1 h2 hk
        · rcases hkk with hk | hk | hk | hk | hk | hk
          · exact right_111 h hn hm hp hq h1 h2 hk
          · exact right_211 h hn hm hp hq h1 h2 hk
          · exact right_311 h hn hm hp hq h1 h2 hk
          · exact right_411 h hn hm hp hq h1 h2 hk
          · exact right_511 h hn hm hp hq h1 h2 hk
          · exact right_011 h hn hm hp hq h1 h2 hk
      · rcases hkk with hk | hk | hk | hk | hk | hk
        · exact right_112 h hn hm hp hq h1 hk
        · exact right_212 h hn hm hp hq h1 hk
        · exact right_312 h hn hm hp hq h1 hk
        · exact right_412 h hn hm hp hq h1 hk
        · exact right_512 h hn hm hp hq h1 hk
        · exact right_012 h hn hm hp hq h1 hk
  · by_cases h1 : o.news.length = 0
    · by_cases h2 : o.puts.length = 0
      · rcases hkk with hk | hk | hk | hk | hk | hk
        · exact right_120 h hn hm hp h1 h2 hk
        · by_cases hs : o.snap = 0
          · exact right_220s h hn hm hp h1 h2 hk hs
          · exact right_220t h hn hm hp h1 h2 hk hs
        · exact right_320 h hn hm hp h1 h2 hk
        · exact right_420 h hn hm hp h1 h2 hk
        · exact right_520 h hn hm hp h1 h2 hk
        · exact right_020 h hn hm hp h1 h2 hk
      · rcases hkk with hk | hk | hk | hk | hk | hk
        · exact right_121 h hn hm hp h1 h2 hk
        · exact right_221 h hn hm hp h1 h2 hk
        · exact right_321 h hn hm hp h1 h2 hk
        · exact right_421 h hn hm hp h1 h2 hk
        · exact right_521 h hn hm hp h1 h2 hk
        · exact right_021 h hn hm hp h1 h2 hk
    · rcases hkk with hk | hk | hk | hk | hk | hk
      · exact right_122 h hn hm hp h1 hk
      · exact right_222 h hn hm hp h1 hk
      · exact right_322 h hn hm hp h1 hk
      · exact right_422 h hn hm hp h1 hk
      · exact right_522 h hn hm hp h1 hk
      · exact right_022 h hn hm hp h1 hk
end Go.Proofs.YtgjjdfhoakailaaGreat
