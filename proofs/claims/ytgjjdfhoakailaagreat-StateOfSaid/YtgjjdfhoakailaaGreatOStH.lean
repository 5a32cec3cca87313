/-
  what this claim needs of: StH (written by cut.py).
-/
import Derived.Test.YtgjjdfhoakailaaGreatOStL
import Derived.Laws.IdiomStrings
import Derived.Test.YtgjjdfhoakailaaGreatOStG
namespace Go.Proofs.YtgjjdfhoakailaaGreat
open Go.RowKit Go.Maps Go.Sort Go.Shelf Go.Lib
set_option linter.unusedVariables false
set_option linter.unusedSimpArgs false

theorem bl_cb : ∀ a b : List UInt8, Op.bytesLess a b = decide (compareBytes a b < 0)
  | [], [] => rfl
  | _ :: _, [] => rfl
  | [], _ :: _ => rfl
  | x :: a, y :: b => by
    rw [cb_cons]
    show (decide (x < y) || (x == y && Op.bytesLess a b)) = _
    rw [bl_cb a b]
    by_cases h1 : x.toNat < y.toNat
    · have h1' : x < y := UInt8.lt_iff_toNat_lt.2 h1
      rw [decide_eq_true h1', if_pos h1]
      rfl
    · have h1' : ¬ x < y := fun h => h1 (UInt8.lt_iff_toNat_lt.1 h)
      rw [decide_eq_false h1', if_neg h1]
      by_cases h2 : y.toNat < x.toNat
      · have hne : x ≠ y := fun e => by rw [e] at h2; omega
        rw [if_pos h2, beq_eq_false_iff_ne.2 hne]
        rfl
      · have he : x = y := UInt8.toNat_inj.1 (by omega)
        rw [if_neg h2, beq_iff_eq.2 he]
        rfl
def keyS (K : Key) : ByteArray := ⟨(bytesOf K.1).toArray⟩
theorem key_str {o : Oper} {a : Act} {x : Operand} {b off : Nat} {K : Key} {w : World} (ho : o.op = .convert 106 9 x) (hx : a.eval x = .slice (some ⟨b, off, none⟩) 32 32) (hr : w.rangeAt b off (keyL K)) :
    (execOp a.eval o).run Tryz.prog w = .ok (.value (.string (keyS K))) w := by
  have hlen : (bytesOf K.1).length = 32 := by simp [bytesOf, K.2.1]
  have h := run_convert_bytes_back (P := Tryz.prog) w 106 9 5 ⟨b, off, none⟩ 32 (bytesOf K.1) Tryz.underlying106 Tryz.underlying5 Tryz.underlying9 (fun j hj => by
    rw [Addr.add_mid]
    refine hr j _ ?_
    have hj2 : j < K.1.length := by rw [K.2.1]; omega
    have hz := K.2.2 _ (List.getElem_mem hj2)
    unfold keyL
    rw [List.getElem?_map, List.getElem?_eq_getElem hj2]
    simp [bytesOf]
    omega)
  rw [hlen] at h
  unfold execOp
  simp only [ho, hx, Sem.run_bind, h, Result.andThen_ok]
  rfl
theorem str_lss {o : Oper} {a : Act} {x y : Operand} {t u : TypeId} {K L : Key} {w : World} {P : Program} (ho : o.op = .binOp .lss t x y u) (hx : a.eval x = .string (keyS K)) (hy : a.eval y = .string (keyS L)) :
    (execOp a.eval o).run P w = .ok (.value (.bool (decide (cmpK K L < 0)))) w := by
  have e : Op.bytesLess (keyS K).toList (keyS L).toList = decide (cmpK K L < 0) := by
    unfold keyS cmpK
    rw [ByteArray.toList_mk, ByteArray.toList_mk, bl_cb]
  unfold execOp
  simp only [ho, hx, hy]
  simp [binOp_string_lss, e, Sem.run_bind, Sem.run_pure, Result.andThen_ok, run_eqGuard_agg, eqGuard]
def BefPost (x y : It) (w : World) (e : Ending) (w' : World) : Prop := e = .returned (.bool (befI x y)) ∧ Below w.heap.size w w'
set_option maxRecDepth 100000 in
set_option maxHeartbeats 1000000 in
theorem bef_12 {w : World} {x y : It} (hx : x.kind = 1) (hy : y.kind = 2) : Calls Tryz.prog 63 #[.agg (itC x).toArray, .agg (itC y).toArray] w (BefPost x y w) := by
  have HX := Lib.hid hx
  have HY := Lib.hid hy
  clear hx hy
  have HBe := Lib.hid (show befI x y = decide ((1 : Int) < 2) by unfold befI; rw [HX.out, HY.out]; rfl)
  go_enter Tryz.func63, Tryz.ntmps63
  go_upto_region 2 with (first
    | ((with_reducible show wpList _ _ _ (_ :: _) _ _); refine wpl_box rfl 56 (.tmp 0) (by rfl) (itC x).toArray (by rfl) ?_; intro w1 hk hg hz; have K1 := Lib.hid hk; have L1 := Lib.hid (bl_n (Below.refl _ w) hg); clear hk hg hz; simp only [Act.put, List.setIfInBounds_toArray, List.set_cons_zero, List.set_cons_succ])
    | ((with_reducible show wpList _ _ _ (_ :: _) _ _); refine wpl_box rfl 56 (.tmp 1) (by rfl) (itC y).toArray (by rfl) ?_; intro w2 hk hg hz; have K2 := Lib.hid hk; have L2 := Lib.hid (bl_n (Below.refl _ w1) hg); clear hk hg hz; simp only [Act.put, List.setIfInBounds_toArray, List.set_cons_zero, List.set_cons_succ])
    | ((with_reducible show wpList _ _ _ (_ :: _) _ _); refine wpList_buildSliceTo rfl 67 3 4 _ (by rfl) w2.heap.size rfl _ rfl Tryz.underlying67 #[.int .i64 3, .int .i64 0, .int .i64 1, .int .i64 2] (by rfl) ?_; simp only [Act.put, List.setIfInBounds_toArray, List.set_cons_zero, List.set_cons_succ]))
  obtain ⟨w3, hw3⟩ : ∃ v, v = w2.alloc (.cells #[.int .i64 3, .int .i64 0, .int .i64 1, .int .i64 2] 3) := ⟨_, rfl⟩
  have K3 := Lib.hid (show Blk w3 w2.heap.size 3 #[.int .i64 3, .int .i64 0, .int .i64 1, .int .i64 2] by rw [hw3]; exact Blk.made _ _ _)
  have L3 := Lib.hid (show Below w2.heap.size w2 w3 by rw [hw3]; exact (Below.refl _ _).alloc (Nat.le_refl _) _)
  rw [← hw3]
  clear hw3
  have B1 := Lib.hid (K1.out.below (below_chain L2.out L3.out) K1.out.lt)
  have B2 := Lib.hid (K2.out.below L3.out K2.out.lt)
  have LL := Lib.hid (below_chain (below_chain L1.out L2.out) L3.out)
  have x0 : w3.cell? ⟨w.heap.size, 0, none⟩ = some (.int .u8 1) := by have h := itC_cell B1.out (j := 0) (v := .int .u8 x.kind) rfl; rwa [HX.out] at h
  have y0 : w3.cell? ⟨w1.heap.size, 0, none⟩ = some (.int .u8 2) := by have h := itC_cell B2.out (j := 0) (v := .int .u8 y.kind) rfl; rwa [HY.out] at h
  have r1 := K3.out.cell (i := 1) (v := .int .i64 0) rfl
  have r2 := K3.out.cell (i := 2) (v := .int .i64 1) rfl
  have r3 := K3.out.cell (i := 3) (v := .int .i64 2) rfl
  refine wp_region_qs (fun _ w' => w'.cell? ⟨w.heap.size, 0, none⟩ = some (.int .u8 1) ∧ w'.cell? ⟨w1.heap.size, 0, none⟩ = some (.int .u8 2) ∧ w'.cell? ⟨w2.heap.size, 1, none⟩ = some (.int .i64 0) ∧ w'.cell? ⟨w2.heap.size, 2, none⟩ = some (.int .i64 1) ∧ w'.cell? ⟨w2.heap.size, 3, none⟩ = some (.int .i64 2)) [(0, some 0), (1, some 0), (2, some 0), (3, some 0), (4, some 0), (5, some 0), (6, some 0), (7, some 0), (8, some 0), (9, some 0), (10, some 0), (11, some 0), (12, some 0), (13, some 0), (14, some 0), (15, some 0)] (by kernel_rfl) (by kernel_rfl) (by kernel_rfl) (by kernel_rfl) (by kernel_rfl) (fun _ _ _ _ _ h => h) ⟨x0, y0, r1, r2, r3⟩ ?_
  simp only [List.map_cons, List.map_nil, List.getD_cons_succ, List.getD_cons_zero]
  (repeat (first | (refine qs_now (v := ?_) (by rfl) ?_ ?_; rotate_left 1; (· (intro w' hS; go_simp; (try (simp only [↓IntWalk.iteOmega]; go_simp)); (try simp (disch := omega) only [IntWalk.i64_in]); try with_reducible rfl)); simp only [Act.put, List.setIfInBounds_toArray, List.set_cons_zero, List.set_cons_succ]) | (refine qs_run (v := ?_) (by rfl) ?_ ?_; rotate_left 1; (· (intro j w' hS; go_simp; (try (simp only [↓IntWalk.iteOmega]; go_simp)); (try simp (disch := omega) only [IntWalk.i64_in]); try with_reducible rfl)); simp only [Act.put, List.setIfInBounds_toArray, List.set_cons_zero, List.set_cons_succ]) | (refine qs_mid (v := ?_) (by rfl) ?_ ?_; rotate_left 1; (· (intro j w' hj1 hj2 hS; go_simp; (try (simp only [↓IntWalk.iteOmega]; go_simp)); (try simp (disch := omega) only [IntWalk.i64_in]); try with_reducible rfl)); simp only [Act.put, List.setIfInBounds_toArray, List.set_cons_zero, List.set_cons_succ]) | (refine qs_skip (by rfl) ?_; simp only [Act.put, List.setIfInBounds_toArray, List.set_cons_zero, List.set_cons_succ])))
  refine qs_nil ?_
  clear r1 r2 r3 K3
  go_wp2_with fail
  go_ret
  exact ⟨by rw [HBe.out]; rfl, LL.out.drew⟩
set_option maxRecDepth 100000 in
set_option maxHeartbeats 1000000 in
theorem bef_13 {w : World} {x y : It} (hx : x.kind = 1) (hy : y.kind = 3) : Calls Tryz.prog 63 #[.agg (itC x).toArray, .agg (itC y).toArray] w (BefPost x y w) := by
  have HX := Lib.hid hx
  have HY := Lib.hid hy
  clear hx hy
  have HBe := Lib.hid (show befI x y = decide ((1 : Int) < 3) by unfold befI; rw [HX.out, HY.out]; rfl)
  go_enter Tryz.func63, Tryz.ntmps63
  go_upto_region 2 with (first
    | ((with_reducible show wpList _ _ _ (_ :: _) _ _); refine wpl_box rfl 56 (.tmp 0) (by rfl) (itC x).toArray (by rfl) ?_; intro w1 hk hg hz; have K1 := Lib.hid hk; have L1 := Lib.hid (bl_n (Below.refl _ w) hg); clear hk hg hz; simp only [Act.put, List.setIfInBounds_toArray, List.set_cons_zero, List.set_cons_succ])
    | ((with_reducible show wpList _ _ _ (_ :: _) _ _); refine wpl_box rfl 56 (.tmp 1) (by rfl) (itC y).toArray (by rfl) ?_; intro w2 hk hg hz; have K2 := Lib.hid hk; have L2 := Lib.hid (bl_n (Below.refl _ w1) hg); clear hk hg hz; simp only [Act.put, List.setIfInBounds_toArray, List.set_cons_zero, List.set_cons_succ])
    | ((with_reducible show wpList _ _ _ (_ :: _) _ _); refine wpList_buildSliceTo rfl 67 3 4 _ (by rfl) w2.heap.size rfl _ rfl Tryz.underlying67 #[.int .i64 3, .int .i64 0, .int .i64 1, .int .i64 2] (by rfl) ?_; simp only [Act.put, List.setIfInBounds_toArray, List.set_cons_zero, List.set_cons_succ]))
  obtain ⟨w3, hw3⟩ : ∃ v, v = w2.alloc (.cells #[.int .i64 3, .int .i64 0, .int .i64 1, .int .i64 2] 3) := ⟨_, rfl⟩
  have K3 := Lib.hid (show Blk w3 w2.heap.size 3 #[.int .i64 3, .int .i64 0, .int .i64 1, .int .i64 2] by rw [hw3]; exact Blk.made _ _ _)
  have L3 := Lib.hid (show Below w2.heap.size w2 w3 by rw [hw3]; exact (Below.refl _ _).alloc (Nat.le_refl _) _)
  rw [← hw3]
  clear hw3
  have B1 := Lib.hid (K1.out.below (below_chain L2.out L3.out) K1.out.lt)
  have B2 := Lib.hid (K2.out.below L3.out K2.out.lt)
  have LL := Lib.hid (below_chain (below_chain L1.out L2.out) L3.out)
  have x0 : w3.cell? ⟨w.heap.size, 0, none⟩ = some (.int .u8 1) := by have h := itC_cell B1.out (j := 0) (v := .int .u8 x.kind) rfl; rwa [HX.out] at h
  have y0 : w3.cell? ⟨w1.heap.size, 0, none⟩ = some (.int .u8 3) := by have h := itC_cell B2.out (j := 0) (v := .int .u8 y.kind) rfl; rwa [HY.out] at h
  have r1 := K3.out.cell (i := 1) (v := .int .i64 0) rfl
  have r2 := K3.out.cell (i := 2) (v := .int .i64 1) rfl
  have r3 := K3.out.cell (i := 3) (v := .int .i64 2) rfl
  refine wp_region_qs (fun _ w' => w'.cell? ⟨w.heap.size, 0, none⟩ = some (.int .u8 1) ∧ w'.cell? ⟨w1.heap.size, 0, none⟩ = some (.int .u8 3) ∧ w'.cell? ⟨w2.heap.size, 1, none⟩ = some (.int .i64 0) ∧ w'.cell? ⟨w2.heap.size, 2, none⟩ = some (.int .i64 1) ∧ w'.cell? ⟨w2.heap.size, 3, none⟩ = some (.int .i64 2)) [(0, some 0), (1, some 0), (2, some 0), (3, some 0), (4, some 0), (5, some 0), (6, some 0), (7, some 0), (8, some 0), (9, some 0), (10, some 0), (11, some 0), (12, some 0), (13, some 0), (14, some 0), (15, some 0)] (by kernel_rfl) (by kernel_rfl) (by kernel_rfl) (by kernel_rfl) (by kernel_rfl) (fun _ _ _ _ _ h => h) ⟨x0, y0, r1, r2, r3⟩ ?_
  simp only [List.map_cons, List.map_nil, List.getD_cons_succ, List.getD_cons_zero]
  (repeat (first | (refine qs_now (v := ?_) (by rfl) ?_ ?_; rotate_left 1; (· (intro w' hS; go_simp; (try (simp only [↓IntWalk.iteOmega]; go_simp)); (try simp (disch := omega) only [IntWalk.i64_in]); try with_reducible rfl)); simp only [Act.put, List.setIfInBounds_toArray, List.set_cons_zero, List.set_cons_succ]) | (refine qs_run (v := ?_) (by rfl) ?_ ?_; rotate_left 1; (· (intro j w' hS; go_simp; (try (simp only [↓IntWalk.iteOmega]; go_simp)); (try simp (disch := omega) only [IntWalk.i64_in]); try with_reducible rfl)); simp only [Act.put, List.setIfInBounds_toArray, List.set_cons_zero, List.set_cons_succ]) | (refine qs_mid (v := ?_) (by rfl) ?_ ?_; rotate_left 1; (· (intro j w' hj1 hj2 hS; go_simp; (try (simp only [↓IntWalk.iteOmega]; go_simp)); (try simp (disch := omega) only [IntWalk.i64_in]); try with_reducible rfl)); simp only [Act.put, List.setIfInBounds_toArray, List.set_cons_zero, List.set_cons_succ]) | (refine qs_skip (by rfl) ?_; simp only [Act.put, List.setIfInBounds_toArray, List.set_cons_zero, List.set_cons_succ])))
  refine qs_nil ?_
  clear r1 r2 r3 K3
  go_wp2_with fail
  go_ret
  exact ⟨by rw [HBe.out]; rfl, LL.out.drew⟩
set_option maxRecDepth 100000 in
set_option maxHeartbeats 1000000 in
theorem bef_21 {w : World} {x y : It} (hx : x.kind = 2) (hy : y.kind = 1) : Calls Tryz.prog 63 #[.agg (itC x).toArray, .agg (itC y).toArray] w (BefPost x y w) := by
  have HX := Lib.hid hx
  have HY := Lib.hid hy
  clear hx hy
  have HBe := Lib.hid (show befI x y = decide ((2 : Int) < 1) by unfold befI; rw [HX.out, HY.out]; rfl)
  go_enter Tryz.func63, Tryz.ntmps63
  go_upto_region 2 with (first
    | ((with_reducible show wpList _ _ _ (_ :: _) _ _); refine wpl_box rfl 56 (.tmp 0) (by rfl) (itC x).toArray (by rfl) ?_; intro w1 hk hg hz; have K1 := Lib.hid hk; have L1 := Lib.hid (bl_n (Below.refl _ w) hg); clear hk hg hz; simp only [Act.put, List.setIfInBounds_toArray, List.set_cons_zero, List.set_cons_succ])
    | ((with_reducible show wpList _ _ _ (_ :: _) _ _); refine wpl_box rfl 56 (.tmp 1) (by rfl) (itC y).toArray (by rfl) ?_; intro w2 hk hg hz; have K2 := Lib.hid hk; have L2 := Lib.hid (bl_n (Below.refl _ w1) hg); clear hk hg hz; simp only [Act.put, List.setIfInBounds_toArray, List.set_cons_zero, List.set_cons_succ])
    | ((with_reducible show wpList _ _ _ (_ :: _) _ _); refine wpList_buildSliceTo rfl 67 3 4 _ (by rfl) w2.heap.size rfl _ rfl Tryz.underlying67 #[.int .i64 3, .int .i64 0, .int .i64 1, .int .i64 2] (by rfl) ?_; simp only [Act.put, List.setIfInBounds_toArray, List.set_cons_zero, List.set_cons_succ]))
  obtain ⟨w3, hw3⟩ : ∃ v, v = w2.alloc (.cells #[.int .i64 3, .int .i64 0, .int .i64 1, .int .i64 2] 3) := ⟨_, rfl⟩
  have K3 := Lib.hid (show Blk w3 w2.heap.size 3 #[.int .i64 3, .int .i64 0, .int .i64 1, .int .i64 2] by rw [hw3]; exact Blk.made _ _ _)
  have L3 := Lib.hid (show Below w2.heap.size w2 w3 by rw [hw3]; exact (Below.refl _ _).alloc (Nat.le_refl _) _)
  rw [← hw3]
  clear hw3
  have B1 := Lib.hid (K1.out.below (below_chain L2.out L3.out) K1.out.lt)
  have B2 := Lib.hid (K2.out.below L3.out K2.out.lt)
  have LL := Lib.hid (below_chain (below_chain L1.out L2.out) L3.out)
  have x0 : w3.cell? ⟨w.heap.size, 0, none⟩ = some (.int .u8 2) := by have h := itC_cell B1.out (j := 0) (v := .int .u8 x.kind) rfl; rwa [HX.out] at h
  have y0 : w3.cell? ⟨w1.heap.size, 0, none⟩ = some (.int .u8 1) := by have h := itC_cell B2.out (j := 0) (v := .int .u8 y.kind) rfl; rwa [HY.out] at h
  have r1 := K3.out.cell (i := 1) (v := .int .i64 0) rfl
  have r2 := K3.out.cell (i := 2) (v := .int .i64 1) rfl
  have r3 := K3.out.cell (i := 3) (v := .int .i64 2) rfl
  refine wp_region_qs (fun _ w' => w'.cell? ⟨w.heap.size, 0, none⟩ = some (.int .u8 2) ∧ w'.cell? ⟨w1.heap.size, 0, none⟩ = some (.int .u8 1) ∧ w'.cell? ⟨w2.heap.size, 1, none⟩ = some (.int .i64 0) ∧ w'.cell? ⟨w2.heap.size, 2, none⟩ = some (.int .i64 1) ∧ w'.cell? ⟨w2.heap.size, 3, none⟩ = some (.int .i64 2)) [(0, some 0), (1, some 0), (2, some 0), (3, some 0), (4, some 0), (5, some 0), (6, some 0), (7, some 0), (8, some 0), (9, some 0), (10, some 0), (11, some 0), (12, some 0), (13, some 0), (14, some 0), (15, some 0)] (by kernel_rfl) (by kernel_rfl) (by kernel_rfl) (by kernel_rfl) (by kernel_rfl) (fun _ _ _ _ _ h => h) ⟨x0, y0, r1, r2, r3⟩ ?_
  simp only [List.map_cons, List.map_nil, List.getD_cons_succ, List.getD_cons_zero]
  (repeat (first | (refine qs_now (v := ?_) (by rfl) ?_ ?_; rotate_left 1; (· (intro w' hS; go_simp; (try (simp only [↓IntWalk.iteOmega]; go_simp)); (try simp (disch := omega) only [IntWalk.i64_in]); try with_reducible rfl)); simp only [Act.put, List.setIfInBounds_toArray, List.set_cons_zero, List.set_cons_succ]) | (refine qs_run (v := ?_) (by rfl) ?_ ?_; rotate_left 1; (· (intro j w' hS; go_simp; (try (simp only [↓IntWalk.iteOmega]; go_simp)); (try simp (disch := omega) only [IntWalk.i64_in]); try with_reducible rfl)); simp only [Act.put, List.setIfInBounds_toArray, List.set_cons_zero, List.set_cons_succ]) | (refine qs_mid (v := ?_) (by rfl) ?_ ?_; rotate_left 1; (· (intro j w' hj1 hj2 hS; go_simp; (try (simp only [↓IntWalk.iteOmega]; go_simp)); (try simp (disch := omega) only [IntWalk.i64_in]); try with_reducible rfl)); simp only [Act.put, List.setIfInBounds_toArray, List.set_cons_zero, List.set_cons_succ]) | (refine qs_skip (by rfl) ?_; simp only [Act.put, List.setIfInBounds_toArray, List.set_cons_zero, List.set_cons_succ])))
  refine qs_nil ?_
  clear r1 r2 r3 K3
  go_wp2_with fail
  go_ret
  exact ⟨by rw [HBe.out]; rfl, LL.out.drew⟩
set_option maxRecDepth 100000 in
set_option maxHeartbeats 1000000 in
theorem bef_23 {w : World} {x y : It} (hx : x.kind = 2) (hy : y.kind = 3) : Calls Tryz.prog 63 #[.agg (itC x).toArray, .agg (itC y).toArray] w (BefPost x y w) := by
  have HX := Lib.hid hx
  have HY := Lib.hid hy
  clear hx hy
  have HBe := Lib.hid (show befI x y = decide ((2 : Int) < 3) by unfold befI; rw [HX.out, HY.out]; rfl)
  go_enter Tryz.func63, Tryz.ntmps63
  go_upto_region 2 with (first
    | ((with_reducible show wpList _ _ _ (_ :: _) _ _); refine wpl_box rfl 56 (.tmp 0) (by rfl) (itC x).toArray (by rfl) ?_; intro w1 hk hg hz; have K1 := Lib.hid hk; have L1 := Lib.hid (bl_n (Below.refl _ w) hg); clear hk hg hz; simp only [Act.put, List.setIfInBounds_toArray, List.set_cons_zero, List.set_cons_succ])
    | ((with_reducible show wpList _ _ _ (_ :: _) _ _); refine wpl_box rfl 56 (.tmp 1) (by rfl) (itC y).toArray (by rfl) ?_; intro w2 hk hg hz; have K2 := Lib.hid hk; have L2 := Lib.hid (bl_n (Below.refl _ w1) hg); clear hk hg hz; simp only [Act.put, List.setIfInBounds_toArray, List.set_cons_zero, List.set_cons_succ])
    | ((with_reducible show wpList _ _ _ (_ :: _) _ _); refine wpList_buildSliceTo rfl 67 3 4 _ (by rfl) w2.heap.size rfl _ rfl Tryz.underlying67 #[.int .i64 3, .int .i64 0, .int .i64 1, .int .i64 2] (by rfl) ?_; simp only [Act.put, List.setIfInBounds_toArray, List.set_cons_zero, List.set_cons_succ]))
  obtain ⟨w3, hw3⟩ : ∃ v, v = w2.alloc (.cells #[.int .i64 3, .int .i64 0, .int .i64 1, .int .i64 2] 3) := ⟨_, rfl⟩
  have K3 := Lib.hid (show Blk w3 w2.heap.size 3 #[.int .i64 3, .int .i64 0, .int .i64 1, .int .i64 2] by rw [hw3]; exact Blk.made _ _ _)
  have L3 := Lib.hid (show Below w2.heap.size w2 w3 by rw [hw3]; exact (Below.refl _ _).alloc (Nat.le_refl _) _)
  rw [← hw3]
  clear hw3
  have B1 := Lib.hid (K1.out.below (below_chain L2.out L3.out) K1.out.lt)
  have B2 := Lib.hid (K2.out.below L3.out K2.out.lt)
  have LL := Lib.hid (below_chain (below_chain L1.out L2.out) L3.out)
  have x0 : w3.cell? ⟨w.heap.size, 0, none⟩ = some (.int .u8 2) := by have h := itC_cell B1.out (j := 0) (v := .int .u8 x.kind) rfl; rwa [HX.out] at h
  have y0 : w3.cell? ⟨w1.heap.size, 0, none⟩ = some (.int .u8 3) := by have h := itC_cell B2.out (j := 0) (v := .int .u8 y.kind) rfl; rwa [HY.out] at h
  have r1 := K3.out.cell (i := 1) (v := .int .i64 0) rfl
  have r2 := K3.out.cell (i := 2) (v := .int .i64 1) rfl
  have r3 := K3.out.cell (i := 3) (v := .int .i64 2) rfl
  refine wp_region_qs (fun _ w' => w'.cell? ⟨w.heap.size, 0, none⟩ = some (.int .u8 2) ∧ w'.cell? ⟨w1.heap.size, 0, none⟩ = some (.int .u8 3) ∧ w'.cell? ⟨w2.heap.size, 1, none⟩ = some (.int .i64 0) ∧ w'.cell? ⟨w2.heap.size, 2, none⟩ = some (.int .i64 1) ∧ w'.cell? ⟨w2.heap.size, 3, none⟩ = some (.int .i64 2)) [(0, some 0), (1, some 0), (2, some 0), (3, some 0), (4, some 0), (5, some 0), (6, some 0), (7, some 0), (8, some 0), (9, some 0), (10, some 0), (11, some 0), (12, some 0), (13, some 0), (14, some 0), (15, some 0)] (by kernel_rfl) (by kernel_rfl) (by kernel_rfl) (by kernel_rfl) (by kernel_rfl) (fun _ _ _ _ _ h => h) ⟨x0, y0, r1, r2, r3⟩ ?_
  simp only [List.map_cons, List.map_nil, List.getD_cons_succ, List.getD_cons_zero]
  (repeat (first | (refine qs_now (v := ?_) (by rfl) ?_ ?_; rotate_left 1; (· (intro w' hS; go_simp; (try (simp only [↓IntWalk.iteOmega]; go_simp)); (try simp (disch := omega) only [IntWalk.i64_in]); try with_reducible rfl)); simp only [Act.put, List.setIfInBounds_toArray, List.set_cons_zero, List.set_cons_succ]) | (refine qs_run (v := ?_) (by rfl) ?_ ?_; rotate_left 1; (· (intro j w' hS; go_simp; (try (simp only [↓IntWalk.iteOmega]; go_simp)); (try simp (disch := omega) only [IntWalk.i64_in]); try with_reducible rfl)); simp only [Act.put, List.setIfInBounds_toArray, List.set_cons_zero, List.set_cons_succ]) | (refine qs_mid (v := ?_) (by rfl) ?_ ?_; rotate_left 1; (· (intro j w' hj1 hj2 hS; go_simp; (try (simp only [↓IntWalk.iteOmega]; go_simp)); (try simp (disch := omega) only [IntWalk.i64_in]); try with_reducible rfl)); simp only [Act.put, List.setIfInBounds_toArray, List.set_cons_zero, List.set_cons_succ]) | (refine qs_skip (by rfl) ?_; simp only [Act.put, List.setIfInBounds_toArray, List.set_cons_zero, List.set_cons_succ])))
  refine qs_nil ?_
  clear r1 r2 r3 K3
  go_wp2_with fail
  go_ret
  exact ⟨by rw [HBe.out]; rfl, LL.out.drew⟩
set_option maxRecDepth 100000 in
set_option maxHeartbeats 1000000 in
theorem bef_31 {w : World} {x y : It} (hx : x.kind = 3) (hy : y.kind = 1) : Calls Tryz.prog 63 #[.agg (itC x).toArray, .agg (itC y).toArray] w (BefPost x y w) := by
  have HX := Lib.hid hx
  have HY := Lib.hid hy
  clear hx hy
  have HBe := Lib.hid (show befI x y = decide ((3 : Int) < 1) by unfold befI; rw [HX.out, HY.out]; rfl)
  go_enter Tryz.func63, Tryz.ntmps63
  go_upto_region 2 with (first
    | ((with_reducible show wpList _ _ _ (_ :: _) _ _); refine wpl_box rfl 56 (.tmp 0) (by rfl) (itC x).toArray (by rfl) ?_; intro w1 hk hg hz; have K1 := Lib.hid hk; have L1 := Lib.hid (bl_n (Below.refl _ w) hg); clear hk hg hz; simp only [Act.put, List.setIfInBounds_toArray, List.set_cons_zero, List.set_cons_succ])
    | ((with_reducible show wpList _ _ _ (_ :: _) _ _); refine wpl_box rfl 56 (.tmp 1) (by rfl) (itC y).toArray (by rfl) ?_; intro w2 hk hg hz; have K2 := Lib.hid hk; have L2 := Lib.hid (bl_n (Below.refl _ w1) hg); clear hk hg hz; simp only [Act.put, List.setIfInBounds_toArray, List.set_cons_zero, List.set_cons_succ])
    | ((with_reducible show wpList _ _ _ (_ :: _) _ _); refine wpList_buildSliceTo rfl 67 3 4 _ (by rfl) w2.heap.size rfl _ rfl Tryz.underlying67 #[.int .i64 3, .int .i64 0, .int .i64 1, .int .i64 2] (by rfl) ?_; simp only [Act.put, List.setIfInBounds_toArray, List.set_cons_zero, List.set_cons_succ]))
  obtain ⟨w3, hw3⟩ : ∃ v, v = w2.alloc (.cells #[.int .i64 3, .int .i64 0, .int .i64 1, .int .i64 2] 3) := ⟨_, rfl⟩
  have K3 := Lib.hid (show Blk w3 w2.heap.size 3 #[.int .i64 3, .int .i64 0, .int .i64 1, .int .i64 2] by rw [hw3]; exact Blk.made _ _ _)
  have L3 := Lib.hid (show Below w2.heap.size w2 w3 by rw [hw3]; exact (Below.refl _ _).alloc (Nat.le_refl _) _)
  rw [← hw3]
  clear hw3
  have B1 := Lib.hid (K1.out.below (below_chain L2.out L3.out) K1.out.lt)
  have B2 := Lib.hid (K2.out.below L3.out K2.out.lt)
  have LL := Lib.hid (below_chain (below_chain L1.out L2.out) L3.out)
  have x0 : w3.cell? ⟨w.heap.size, 0, none⟩ = some (.int .u8 3) := by have h := itC_cell B1.out (j := 0) (v := .int .u8 x.kind) rfl; rwa [HX.out] at h
  have y0 : w3.cell? ⟨w1.heap.size, 0, none⟩ = some (.int .u8 1) := by have h := itC_cell B2.out (j := 0) (v := .int .u8 y.kind) rfl; rwa [HY.out] at h
  have r1 := K3.out.cell (i := 1) (v := .int .i64 0) rfl
  have r2 := K3.out.cell (i := 2) (v := .int .i64 1) rfl
  have r3 := K3.out.cell (i := 3) (v := .int .i64 2) rfl
  refine wp_region_qs (fun _ w' => w'.cell? ⟨w.heap.size, 0, none⟩ = some (.int .u8 3) ∧ w'.cell? ⟨w1.heap.size, 0, none⟩ = some (.int .u8 1) ∧ w'.cell? ⟨w2.heap.size, 1, none⟩ = some (.int .i64 0) ∧ w'.cell? ⟨w2.heap.size, 2, none⟩ = some (.int .i64 1) ∧ w'.cell? ⟨w2.heap.size, 3, none⟩ = some (.int .i64 2)) [(0, some 0), (1, some 0), (2, some 0), (3, some 0), (4, some 0), (5, some 0), (6, some 0), (7, some 0), (8, some 0), (9, some 0), (10, some 0), (11, some 0), (12, some 0), (13, some 0), (14, some 0), (15, some 0)] (by kernel_rfl) (by kernel_rfl) (by kernel_rfl) (by kernel_rfl) (by kernel_rfl) (fun _ _ _ _ _ h => h) ⟨x0, y0, r1, r2, r3⟩ ?_
  simp only [List.map_cons, List.map_nil, List.getD_cons_succ, List.getD_cons_zero]
  (repeat (first | (refine qs_now (v := ?_) (by rfl) ?_ ?_; rotate_left 1; (· (intro w' hS; go_simp; (try (simp only [↓IntWalk.iteOmega]; go_simp)); (try simp (disch := omega) only [IntWalk.i64_in]); try with_reducible rfl)); simp only [Act.put, List.setIfInBounds_toArray, List.set_cons_zero, List.set_cons_succ]) | (refine qs_run (v := ?_) (by rfl) ?_ ?_; rotate_left 1; (· (intro j w' hS; go_simp; (try (simp only [↓IntWalk.iteOmega]; go_simp)); (try simp (disch := omega) only [IntWalk.i64_in]); try with_reducible rfl)); simp only [Act.put, List.setIfInBounds_toArray, List.set_cons_zero, List.set_cons_succ]) | (refine qs_mid (v := ?_) (by rfl) ?_ ?_; rotate_left 1; (· (intro j w' hj1 hj2 hS; go_simp; (try (simp only [↓IntWalk.iteOmega]; go_simp)); (try simp (disch := omega) only [IntWalk.i64_in]); try with_reducible rfl)); simp only [Act.put, List.setIfInBounds_toArray, List.set_cons_zero, List.set_cons_succ]) | (refine qs_skip (by rfl) ?_; simp only [Act.put, List.setIfInBounds_toArray, List.set_cons_zero, List.set_cons_succ])))
  refine qs_nil ?_
  clear r1 r2 r3 K3
  go_wp2_with fail
  go_ret
  exact ⟨by rw [HBe.out]; rfl, LL.out.drew⟩
set_option maxRecDepth 100000 in
set_option maxHeartbeats 1000000 in
theorem bef_32 {w : World} {x y : It} (hx : x.kind = 3) (hy : y.kind = 2) : Calls Tryz.prog 63 #[.agg (itC x).toArray, .agg (itC y).toArray] w (BefPost x y w) := by
  have HX := Lib.hid hx
  have HY := Lib.hid hy
  clear hx hy
  have HBe := Lib.hid (show befI x y = decide ((3 : Int) < 2) by unfold befI; rw [HX.out, HY.out]; rfl)
  go_enter Tryz.func63, Tryz.ntmps63
  go_upto_region 2 with (first
    | ((with_reducible show wpList _ _ _ (_ :: _) _ _); refine wpl_box rfl 56 (.tmp 0) (by rfl) (itC x).toArray (by rfl) ?_; intro w1 hk hg hz; have K1 := Lib.hid hk; have L1 := Lib.hid (bl_n (Below.refl _ w) hg); clear hk hg hz; simp only [Act.put, List.setIfInBounds_toArray, List.set_cons_zero, List.set_cons_succ])
    | ((with_reducible show wpList _ _ _ (_ :: _) _ _); refine wpl_box rfl 56 (.tmp 1) (by rfl) (itC y).toArray (by rfl) ?_; intro w2 hk hg hz; have K2 := Lib.hid hk; have L2 := Lib.hid (bl_n (Below.refl _ w1) hg); clear hk hg hz; simp only [Act.put, List.setIfInBounds_toArray, List.set_cons_zero, List.set_cons_succ])
    | ((with_reducible show wpList _ _ _ (_ :: _) _ _); refine wpList_buildSliceTo rfl 67 3 4 _ (by rfl) w2.heap.size rfl _ rfl Tryz.underlying67 #[.int .i64 3, .int .i64 0, .int .i64 1, .int .i64 2] (by rfl) ?_; simp only [Act.put, List.setIfInBounds_toArray, List.set_cons_zero, List.set_cons_succ]))
  obtain ⟨w3, hw3⟩ : ∃ v, v = w2.alloc (.cells #[.int .i64 3, .int .i64 0, .int .i64 1, .int .i64 2] 3) := ⟨_, rfl⟩
  have K3 := Lib.hid (show Blk w3 w2.heap.size 3 #[.int .i64 3, .int .i64 0, .int .i64 1, .int .i64 2] by rw [hw3]; exact Blk.made _ _ _)
  have L3 := Lib.hid (show Below w2.heap.size w2 w3 by rw [hw3]; exact (Below.refl _ _).alloc (Nat.le_refl _) _)
  rw [← hw3]
  clear hw3
  have B1 := Lib.hid (K1.out.below (below_chain L2.out L3.out) K1.out.lt)
  have B2 := Lib.hid (K2.out.below L3.out K2.out.lt)
  have LL := Lib.hid (below_chain (below_chain L1.out L2.out) L3.out)
  have x0 : w3.cell? ⟨w.heap.size, 0, none⟩ = some (.int .u8 3) := by have h := itC_cell B1.out (j := 0) (v := .int .u8 x.kind) rfl; rwa [HX.out] at h
  have y0 : w3.cell? ⟨w1.heap.size, 0, none⟩ = some (.int .u8 2) := by have h := itC_cell B2.out (j := 0) (v := .int .u8 y.kind) rfl; rwa [HY.out] at h
  have r1 := K3.out.cell (i := 1) (v := .int .i64 0) rfl
  have r2 := K3.out.cell (i := 2) (v := .int .i64 1) rfl
  have r3 := K3.out.cell (i := 3) (v := .int .i64 2) rfl
  refine wp_region_qs (fun _ w' => w'.cell? ⟨w.heap.size, 0, none⟩ = some (.int .u8 3) ∧ w'.cell? ⟨w1.heap.size, 0, none⟩ = some (.int .u8 2) ∧ w'.cell? ⟨w2.heap.size, 1, none⟩ = some (.int .i64 0) ∧ w'.cell? ⟨w2.heap.size, 2, none⟩ = some (.int .i64 1) ∧ w'.cell? ⟨w2.heap.size, 3, none⟩ = some (.int .i64 2)) [(0, some 0), (1, some 0), (2, some 0), (3, some 0), (4, some 0), (5, some 0), (6, some 0), (7, some 0), (8, some 0), (9, some 0), (10, some 0), (11, some 0), (12, some 0), (13, some 0), (14, some 0), (15, some 0)] (by kernel_rfl) (by kernel_rfl) (by kernel_rfl) (by kernel_rfl) (by kernel_rfl) (fun _ _ _ _ _ h => h) ⟨x0, y0, r1, r2, r3⟩ ?_
  simp only [List.map_cons, List.map_nil, List.getD_cons_succ, List.getD_cons_zero]
  (repeat (first | (refine qs_now (v := ?_) (by rfl) ?_ ?_; rotate_left 1; (· (intro w' hS; go_simp; (try (simp only [↓IntWalk.iteOmega]; go_simp)); (try simp (disch := omega) only [IntWalk.i64_in]); try with_reducible rfl)); simp only [Act.put, List.setIfInBounds_toArray, List.set_cons_zero, List.set_cons_succ]) | (refine qs_run (v := ?_) (by rfl) ?_ ?_; rotate_left 1; (· (intro j w' hS; go_simp; (try (simp only [↓IntWalk.iteOmega]; go_simp)); (try simp (disch := omega) only [IntWalk.i64_in]); try with_reducible rfl)); simp only [Act.put, List.setIfInBounds_toArray, List.set_cons_zero, List.set_cons_succ]) | (refine qs_mid (v := ?_) (by rfl) ?_ ?_; rotate_left 1; (· (intro j w' hj1 hj2 hS; go_simp; (try (simp only [↓IntWalk.iteOmega]; go_simp)); (try simp (disch := omega) only [IntWalk.i64_in]); try with_reducible rfl)); simp only [Act.put, List.setIfInBounds_toArray, List.set_cons_zero, List.set_cons_succ]) | (refine qs_skip (by rfl) ?_; simp only [Act.put, List.setIfInBounds_toArray, List.set_cons_zero, List.set_cons_succ])))
  refine qs_nil ?_
  clear r1 r2 r3 K3
  go_wp2_with fail
  go_ret
  exact ⟨by rw [HBe.out]; rfl, LL.out.drew⟩
set_option maxRecDepth 100000 in
set_option maxHeartbeats 1000000 in
theorem bef_33 {w : World} {x y : It} (hx : x.kind = 3) (hy : y.kind = 3) : Calls Tryz.prog 63 #[.agg (itC x).toArray, .agg (itC y).toArray] w (BefPost x y w) := by
  have HX := Lib.hid hx
  have HY := Lib.hid hy
  have HB0 := Lib.hid (show befI x y = decide (x.snap < y.snap) by unfold befI; rw [hx, hy]; rfl)
  clear hx hy
  go_enter Tryz.func63, Tryz.ntmps63
  go_upto_region 2 with (first
    | ((with_reducible show wpList _ _ _ (_ :: _) _ _); refine wpl_box rfl 56 (.tmp 0) (by rfl) (itC x).toArray (by rfl) ?_; intro w1 hk hg hz; have K1 := Lib.hid hk; have L1 := Lib.hid (bl_n (Below.refl _ w) hg); clear hk hg hz; simp only [Act.put, List.setIfInBounds_toArray, List.set_cons_zero, List.set_cons_succ])
    | ((with_reducible show wpList _ _ _ (_ :: _) _ _); refine wpl_box rfl 56 (.tmp 1) (by rfl) (itC y).toArray (by rfl) ?_; intro w2 hk hg hz; have K2 := Lib.hid hk; have L2 := Lib.hid (bl_n (Below.refl _ w1) hg); clear hk hg hz; simp only [Act.put, List.setIfInBounds_toArray, List.set_cons_zero, List.set_cons_succ])
    | ((with_reducible show wpList _ _ _ (_ :: _) _ _); refine wpList_buildSliceTo rfl 67 3 4 _ (by rfl) w2.heap.size rfl _ rfl Tryz.underlying67 #[.int .i64 3, .int .i64 0, .int .i64 1, .int .i64 2] (by rfl) ?_; simp only [Act.put, List.setIfInBounds_toArray, List.set_cons_zero, List.set_cons_succ]))
  obtain ⟨w3, hw3⟩ : ∃ v, v = w2.alloc (.cells #[.int .i64 3, .int .i64 0, .int .i64 1, .int .i64 2] 3) := ⟨_, rfl⟩
  have K3 := Lib.hid (show Blk w3 w2.heap.size 3 #[.int .i64 3, .int .i64 0, .int .i64 1, .int .i64 2] by rw [hw3]; exact Blk.made _ _ _)
  have L3 := Lib.hid (show Below w2.heap.size w2 w3 by rw [hw3]; exact (Below.refl _ _).alloc (Nat.le_refl _) _)
  rw [← hw3]
  clear hw3
  have B1 := Lib.hid (K1.out.below (below_chain L2.out L3.out) K1.out.lt)
  have B2 := Lib.hid (K2.out.below L3.out K2.out.lt)
  have LL := Lib.hid (below_chain (below_chain L1.out L2.out) L3.out)
  have x0 : w3.cell? ⟨w.heap.size, 0, none⟩ = some (.int .u8 3) := by have h := itC_cell B1.out (j := 0) (v := .int .u8 x.kind) rfl; rwa [HX.out] at h
  have y0 : w3.cell? ⟨w1.heap.size, 0, none⟩ = some (.int .u8 3) := by have h := itC_cell B2.out (j := 0) (v := .int .u8 y.kind) rfl; rwa [HY.out] at h
  have r1 := K3.out.cell (i := 1) (v := .int .i64 0) rfl
  have r2 := K3.out.cell (i := 2) (v := .int .i64 1) rfl
  have r3 := K3.out.cell (i := 3) (v := .int .i64 2) rfl
  refine wp_region_qs (fun _ w' => w'.cell? ⟨w.heap.size, 0, none⟩ = some (.int .u8 3) ∧ w'.cell? ⟨w1.heap.size, 0, none⟩ = some (.int .u8 3) ∧ w'.cell? ⟨w2.heap.size, 1, none⟩ = some (.int .i64 0) ∧ w'.cell? ⟨w2.heap.size, 2, none⟩ = some (.int .i64 1) ∧ w'.cell? ⟨w2.heap.size, 3, none⟩ = some (.int .i64 2)) [(0, some 0), (1, some 0), (2, some 0), (3, some 0), (4, some 0), (5, some 0), (6, some 0), (7, some 0), (8, some 0), (9, some 0), (10, some 0), (11, some 0), (12, some 0), (13, some 0), (14, some 0), (15, some 0)] (by kernel_rfl) (by kernel_rfl) (by kernel_rfl) (by kernel_rfl) (by kernel_rfl) (fun _ _ _ _ _ h => h) ⟨x0, y0, r1, r2, r3⟩ ?_
  simp only [List.map_cons, List.map_nil, List.getD_cons_succ, List.getD_cons_zero]
  (repeat (first | (refine qs_now (v := ?_) (by rfl) ?_ ?_; rotate_left 1; (· (intro w' hS; go_simp; (try (simp only [↓IntWalk.iteOmega]; go_simp)); (try simp (disch := omega) only [IntWalk.i64_in]); try with_reducible rfl)); simp only [Act.put, List.setIfInBounds_toArray, List.set_cons_zero, List.set_cons_succ]) | (refine qs_run (v := ?_) (by rfl) ?_ ?_; rotate_left 1; (· (intro j w' hS; go_simp; (try (simp only [↓IntWalk.iteOmega]; go_simp)); (try simp (disch := omega) only [IntWalk.i64_in]); try with_reducible rfl)); simp only [Act.put, List.setIfInBounds_toArray, List.set_cons_zero, List.set_cons_succ]) | (refine qs_mid (v := ?_) (by rfl) ?_ ?_; rotate_left 1; (· (intro j w' hj1 hj2 hS; go_simp; (try (simp only [↓IntWalk.iteOmega]; go_simp)); (try simp (disch := omega) only [IntWalk.i64_in]); try with_reducible rfl)); simp only [Act.put, List.setIfInBounds_toArray, List.set_cons_zero, List.set_cons_succ]) | (refine qs_skip (by rfl) ?_; simp only [Act.put, List.setIfInBounds_toArray, List.set_cons_zero, List.set_cons_succ])))
  refine qs_nil ?_
  clear r1 r2 r3 K3
  have sx := (itC_cell B1.out (it_snap x))
  have sy := (itC_cell B2.out (it_snap y))
  by_cases hs : x.snap < y.snap
  · have HBe := Lib.hid (show befI x y = true by rw [HB0.out, decide_eq_true hs])
    go_wp2_with fail
    go_ret
    exact ⟨by rw [HBe.out]; rfl, LL.out.drew⟩
  · have HBe := Lib.hid (show befI x y = false by rw [HB0.out, decide_eq_false hs])
    go_wp2_with fail
    go_ret
    exact ⟨by rw [HBe.out]; rfl, LL.out.drew⟩
set_option maxRecDepth 100000 in
set_option maxHeartbeats 1000000 in
theorem bef_22 {w : World} {x y : It} (hx : x.kind = 2) (hy : y.kind = 2) : Calls Tryz.prog 63 #[.agg (itC x).toArray, .agg (itC y).toArray] w (BefPost x y w) := by
  have HX := Lib.hid hx
  have HY := Lib.hid hy
  have HB0 := Lib.hid (show befI x y = if x.snap = y.snap then decide (x.unit < y.unit) else decide (x.snap < y.snap) by unfold befI; rw [hx, hy]; rfl)
  clear hx hy
  go_enter Tryz.func63, Tryz.ntmps63
  go_upto_region 2 with (first
    | ((with_reducible show wpList _ _ _ (_ :: _) _ _); refine wpl_box rfl 56 (.tmp 0) (by rfl) (itC x).toArray (by rfl) ?_; intro w1 hk hg hz; have K1 := Lib.hid hk; have L1 := Lib.hid (bl_n (Below.refl _ w) hg); clear hk hg hz; simp only [Act.put, List.setIfInBounds_toArray, List.set_cons_zero, List.set_cons_succ])
    | ((with_reducible show wpList _ _ _ (_ :: _) _ _); refine wpl_box rfl 56 (.tmp 1) (by rfl) (itC y).toArray (by rfl) ?_; intro w2 hk hg hz; have K2 := Lib.hid hk; have L2 := Lib.hid (bl_n (Below.refl _ w1) hg); clear hk hg hz; simp only [Act.put, List.setIfInBounds_toArray, List.set_cons_zero, List.set_cons_succ])
    | ((with_reducible show wpList _ _ _ (_ :: _) _ _); refine wpList_buildSliceTo rfl 67 3 4 _ (by rfl) w2.heap.size rfl _ rfl Tryz.underlying67 #[.int .i64 3, .int .i64 0, .int .i64 1, .int .i64 2] (by rfl) ?_; simp only [Act.put, List.setIfInBounds_toArray, List.set_cons_zero, List.set_cons_succ]))
  obtain ⟨w3, hw3⟩ : ∃ v, v = w2.alloc (.cells #[.int .i64 3, .int .i64 0, .int .i64 1, .int .i64 2] 3) := ⟨_, rfl⟩
  have K3 := Lib.hid (show Blk w3 w2.heap.size 3 #[.int .i64 3, .int .i64 0, .int .i64 1, .int .i64 2] by rw [hw3]; exact Blk.made _ _ _)
  have L3 := Lib.hid (show Below w2.heap.size w2 w3 by rw [hw3]; exact (Below.refl _ _).alloc (Nat.le_refl _) _)
  rw [← hw3]
  clear hw3
  have B1 := Lib.hid (K1.out.below (below_chain L2.out L3.out) K1.out.lt)
  have B2 := Lib.hid (K2.out.below L3.out K2.out.lt)
  have LL := Lib.hid (below_chain (below_chain L1.out L2.out) L3.out)
  have x0 : w3.cell? ⟨w.heap.size, 0, none⟩ = some (.int .u8 2) := by have h := itC_cell B1.out (j := 0) (v := .int .u8 x.kind) rfl; rwa [HX.out] at h
  have y0 : w3.cell? ⟨w1.heap.size, 0, none⟩ = some (.int .u8 2) := by have h := itC_cell B2.out (j := 0) (v := .int .u8 y.kind) rfl; rwa [HY.out] at h
  have r1 := K3.out.cell (i := 1) (v := .int .i64 0) rfl
  have r2 := K3.out.cell (i := 2) (v := .int .i64 1) rfl
  have r3 := K3.out.cell (i := 3) (v := .int .i64 2) rfl
  refine wp_region_qs (fun _ w' => w'.cell? ⟨w.heap.size, 0, none⟩ = some (.int .u8 2) ∧ w'.cell? ⟨w1.heap.size, 0, none⟩ = some (.int .u8 2) ∧ w'.cell? ⟨w2.heap.size, 1, none⟩ = some (.int .i64 0) ∧ w'.cell? ⟨w2.heap.size, 2, none⟩ = some (.int .i64 1) ∧ w'.cell? ⟨w2.heap.size, 3, none⟩ = some (.int .i64 2)) [(0, some 0), (1, some 0), (2, some 0), (3, some 0), (4, some 0), (5, some 0), (6, some 0), (7, some 0), (8, some 0), (9, some 0), (10, some 0), (11, some 0), (12, some 0), (13, some 0), (14, some 0), (15, some 0)] (by kernel_rfl) (by kernel_rfl) (by kernel_rfl) (by kernel_rfl) (by kernel_rfl) (fun _ _ _ _ _ h => h) ⟨x0, y0, r1, r2, r3⟩ ?_
  simp only [List.map_cons, List.map_nil, List.getD_cons_succ, List.getD_cons_zero]
  (repeat (first | (refine qs_now (v := ?_) (by rfl) ?_ ?_; rotate_left 1; (· (intro w' hS; go_simp; (try (simp only [↓IntWalk.iteOmega]; go_simp)); (try simp (disch := omega) only [IntWalk.i64_in]); try with_reducible rfl)); simp only [Act.put, List.setIfInBounds_toArray, List.set_cons_zero, List.set_cons_succ]) | (refine qs_run (v := ?_) (by rfl) ?_ ?_; rotate_left 1; (· (intro j w' hS; go_simp; (try (simp only [↓IntWalk.iteOmega]; go_simp)); (try simp (disch := omega) only [IntWalk.i64_in]); try with_reducible rfl)); simp only [Act.put, List.setIfInBounds_toArray, List.set_cons_zero, List.set_cons_succ]) | (refine qs_mid (v := ?_) (by rfl) ?_ ?_; rotate_left 1; (· (intro j w' hj1 hj2 hS; go_simp; (try (simp only [↓IntWalk.iteOmega]; go_simp)); (try simp (disch := omega) only [IntWalk.i64_in]); try with_reducible rfl)); simp only [Act.put, List.setIfInBounds_toArray, List.set_cons_zero, List.set_cons_succ]) | (refine qs_skip (by rfl) ?_; simp only [Act.put, List.setIfInBounds_toArray, List.set_cons_zero, List.set_cons_succ])))
  refine qs_nil ?_
  clear r1 r2 r3 K3
  have sx := (itC_cell B1.out (it_snap x))
  have sy := (itC_cell B2.out (it_snap y))
  have ux := (itC_cell B1.out (it_unit x))
  have uy := (itC_cell B2.out (it_unit y))
  by_cases he : x.snap = y.snap
  · have b1 : (x.snap != y.snap) = false := by simp [he]
    by_cases hs : x.unit < y.unit
    · have HBe := Lib.hid (show befI x y = true by rw [HB0.out, if_pos he, decide_eq_true hs])
      clear he
      go_wp2_with fail
      go_ret
      exact ⟨by rw [HBe.out]; rfl, LL.out.drew⟩
    · have HBe := Lib.hid (show befI x y = false by rw [HB0.out, if_pos he, decide_eq_false hs])
      clear he
      go_wp2_with fail
      go_ret
      exact ⟨by rw [HBe.out]; rfl, LL.out.drew⟩
  · have b1 : (x.snap != y.snap) = true := by simp [he]
    by_cases hs : x.snap < y.snap
    · have HBe := Lib.hid (show befI x y = true by rw [HB0.out, if_neg he, decide_eq_true hs])
      clear he
      go_wp2_with fail
      go_ret
      exact ⟨by rw [HBe.out]; rfl, LL.out.drew⟩
    · have HBe := Lib.hid (show befI x y = false by rw [HB0.out, if_neg he, decide_eq_false hs])
      clear he
      go_wp2_with fail
      go_ret
      exact ⟨by rw [HBe.out]; rfl, LL.out.drew⟩
set_option maxRecDepth 100000 in
set_option maxHeartbeats 1000000 in
theorem bef_11 {w : World} {x y : It} (hx : x.kind = 1) (hy : y.kind = 1) : Calls Tryz.prog 63 #[.agg (itC x).toArray, .agg (itC y).toArray] w (BefPost x y w) := by
  have HX := Lib.hid hx
  have HY := Lib.hid hy
  obtain ⟨lt, hlt⟩ : ∃ b : Bool, b = decide (cmpK x.key y.key < 0) := ⟨_, rfl⟩
  have HLt := Lib.hid hlt
  have HB0 := Lib.hid (show befI x y = lt by unfold befI; rw [hx, hy, hlt]; rfl)
  clear hx hy hlt
  go_enter Tryz.func63, Tryz.ntmps63
  go_upto_region 2 with (first
    | ((with_reducible show wpList _ _ _ (_ :: _) _ _); refine wpl_box rfl 56 (.tmp 0) (by rfl) (itC x).toArray (by rfl) ?_; intro w1 hk hg hz; have K1 := Lib.hid hk; have L1 := Lib.hid (bl_n (Below.refl _ w) hg); clear hk hg hz; simp only [Act.put, List.setIfInBounds_toArray, List.set_cons_zero, List.set_cons_succ])
    | ((with_reducible show wpList _ _ _ (_ :: _) _ _); refine wpl_box rfl 56 (.tmp 1) (by rfl) (itC y).toArray (by rfl) ?_; intro w2 hk hg hz; have K2 := Lib.hid hk; have L2 := Lib.hid (bl_n (Below.refl _ w1) hg); clear hk hg hz; simp only [Act.put, List.setIfInBounds_toArray, List.set_cons_zero, List.set_cons_succ])
    | ((with_reducible show wpList _ _ _ (_ :: _) _ _); refine wpList_buildSliceTo rfl 67 3 4 _ (by rfl) w2.heap.size rfl _ rfl Tryz.underlying67 #[.int .i64 3, .int .i64 0, .int .i64 1, .int .i64 2] (by rfl) ?_; simp only [Act.put, List.setIfInBounds_toArray, List.set_cons_zero, List.set_cons_succ]))
  obtain ⟨w3, hw3⟩ : ∃ v, v = w2.alloc (.cells #[.int .i64 3, .int .i64 0, .int .i64 1, .int .i64 2] 3) := ⟨_, rfl⟩
  have K3 := Lib.hid (show Blk w3 w2.heap.size 3 #[.int .i64 3, .int .i64 0, .int .i64 1, .int .i64 2] by rw [hw3]; exact Blk.made _ _ _)
  have L3 := Lib.hid (show Below w2.heap.size w2 w3 by rw [hw3]; exact (Below.refl _ _).alloc (Nat.le_refl _) _)
  rw [← hw3]
  clear hw3
  have B1 := Lib.hid (K1.out.below (below_chain L2.out L3.out) K1.out.lt)
  have B2 := Lib.hid (K2.out.below L3.out K2.out.lt)
  have LL := Lib.hid (below_chain (below_chain L1.out L2.out) L3.out)
  have x0 : w3.cell? ⟨w.heap.size, 0, none⟩ = some (.int .u8 1) := by have h := itC_cell B1.out (j := 0) (v := .int .u8 x.kind) rfl; rwa [HX.out] at h
  have y0 : w3.cell? ⟨w1.heap.size, 0, none⟩ = some (.int .u8 1) := by have h := itC_cell B2.out (j := 0) (v := .int .u8 y.kind) rfl; rwa [HY.out] at h
  have r1 := K3.out.cell (i := 1) (v := .int .i64 0) rfl
  have r2 := K3.out.cell (i := 2) (v := .int .i64 1) rfl
  have r3 := K3.out.cell (i := 3) (v := .int .i64 2) rfl
  refine wp_region_qs (fun _ w' => w'.cell? ⟨w.heap.size, 0, none⟩ = some (.int .u8 1) ∧ w'.cell? ⟨w1.heap.size, 0, none⟩ = some (.int .u8 1) ∧ w'.cell? ⟨w2.heap.size, 1, none⟩ = some (.int .i64 0) ∧ w'.cell? ⟨w2.heap.size, 2, none⟩ = some (.int .i64 1) ∧ w'.cell? ⟨w2.heap.size, 3, none⟩ = some (.int .i64 2)) [(0, some 0), (1, some 0), (2, some 0), (3, some 0), (4, some 0), (5, some 0), (6, some 0), (7, some 0), (8, some 0), (9, some 0), (10, some 0), (11, some 0), (12, some 0), (13, some 0), (14, some 0), (15, some 0)] (by kernel_rfl) (by kernel_rfl) (by kernel_rfl) (by kernel_rfl) (by kernel_rfl) (fun _ _ _ _ _ h => h) ⟨x0, y0, r1, r2, r3⟩ ?_
  simp only [List.map_cons, List.map_nil, List.getD_cons_succ, List.getD_cons_zero]
  (repeat (first | (refine qs_now (v := ?_) (by rfl) ?_ ?_; rotate_left 1; (· (intro w' hS; go_simp; (try (simp only [↓IntWalk.iteOmega]; go_simp)); (try simp (disch := omega) only [IntWalk.i64_in]); try with_reducible rfl)); simp only [Act.put, List.setIfInBounds_toArray, List.set_cons_zero, List.set_cons_succ]) | (refine qs_run (v := ?_) (by rfl) ?_ ?_; rotate_left 1; (· (intro j w' hS; go_simp; (try (simp only [↓IntWalk.iteOmega]; go_simp)); (try simp (disch := omega) only [IntWalk.i64_in]); try with_reducible rfl)); simp only [Act.put, List.setIfInBounds_toArray, List.set_cons_zero, List.set_cons_succ]) | (refine qs_mid (v := ?_) (by rfl) ?_ ?_; rotate_left 1; (· (intro j w' hj1 hj2 hS; go_simp; (try (simp only [↓IntWalk.iteOmega]; go_simp)); (try simp (disch := omega) only [IntWalk.i64_in]); try with_reducible rfl)); simp only [Act.put, List.setIfInBounds_toArray, List.set_cons_zero, List.set_cons_succ]) | (refine qs_skip (by rfl) ?_; simp only [Act.put, List.setIfInBounds_toArray, List.set_cons_zero, List.set_cons_succ])))
  refine qs_nil ?_
  clear r1 r2 r3 K3
  have RX := Lib.hid (show w3.drew.rangeAt w.heap.size 1 (keyL x.key) from B1.out.drew.part 1 _ (it_key x))
  have RY := Lib.hid (show w3.drew.rangeAt w1.heap.size 1 (keyL y.key) from B2.out.drew.part 1 _ (it_key y))
  have qx := fun W => slice_key w.heap.size 1 W
  have qy := fun W => slice_key w1.heap.size 1 W
  go_upto_region 7 with fail
  refine wp_region_qs (fun _ w' => w'.rangeAt w.heap.size 1 (keyL x.key) ∧ w'.rangeAt w1.heap.size 1 (keyL y.key)) [(0, some 0), (1, some 0), (2, some 0), (3, some 0), (4, some 0), (5, some 0), (6, some 0), (7, some 0)] (by kernel_rfl) (by kernel_rfl) (by kernel_rfl) (by kernel_rfl) (by kernel_rfl) (fun _ _ _ _ _ h => h) ⟨RX.out, RY.out⟩ ?_
  simp only [List.map_cons, List.map_nil, List.getD_cons_succ, List.getD_cons_zero]
  (repeat (first | ((first | (refine qs_mid (v := .string (keyS x.key)) (by rfl) (fun j w' _ _ hS => key_str rfl (by rfl) hS.1) ?_) | (refine qs_mid (v := .string (keyS y.key)) (by rfl) (fun j w' _ _ hS => key_str rfl (by rfl) hS.2) ?_) | (refine qs_mid (v := .bool lt) (by rfl) (fun j w' _ _ _ => by rw [HLt.out]; exact str_lss rfl (by rfl) (by rfl)) ?_)); simp only [Act.put, List.setIfInBounds_toArray, List.set_cons_zero, List.set_cons_succ]) | (refine qs_now (v := ?_) (by rfl) ?_ ?_; rotate_left 1; (· (intro w' hS; go_simp; (try (simp only [↓IntWalk.iteOmega]; go_simp)); (try simp (disch := omega) only [IntWalk.i64_in]); try with_reducible rfl)); simp only [Act.put, List.setIfInBounds_toArray, List.set_cons_zero, List.set_cons_succ]) | (refine qs_run (v := ?_) (by rfl) ?_ ?_; rotate_left 1; (· (intro j w' hS; go_simp; (try (simp only [↓IntWalk.iteOmega]; go_simp)); (try simp (disch := omega) only [IntWalk.i64_in]); try with_reducible rfl)); simp only [Act.put, List.setIfInBounds_toArray, List.set_cons_zero, List.set_cons_succ]) | (refine qs_mid (v := ?_) (by rfl) ?_ ?_; rotate_left 1; (· (intro j w' hj1 hj2 hS; go_simp; (try (simp only [↓IntWalk.iteOmega]; go_simp)); (try simp (disch := omega) only [IntWalk.i64_in]); try with_reducible rfl)); simp only [Act.put, List.setIfInBounds_toArray, List.set_cons_zero, List.set_cons_succ]) | (refine qs_skip (by rfl) ?_; simp only [Act.put, List.setIfInBounds_toArray, List.set_cons_zero, List.set_cons_succ])))
  refine qs_nil ?_
  go_wp2_with fail
  go_ret
  exact ⟨by rw [HB0.out]; rfl, LL.out.drew.drew⟩
theorem before_any {w : World} {x y : It} (hx : x.kind = 1 ∨ x.kind = 2 ∨ x.kind = 3) (hy : y.kind = 1 ∨ y.kind = 2 ∨ y.kind = 3) : Calls Tryz.prog 63 #[.agg (itC x).toArray, .agg (itC y).toArray] w (BefPost x y w) := by
  rcases hx with hx | hx | hx
  · rcases hy with hy | hy | hy
    · exact bef_11 hx hy
    · exact bef_12 hx hy
    · exact bef_13 hx hy
  · rcases hy with hy | hy | hy
    · exact bef_21 hx hy
    · exact bef_22 hx hy
    · exact bef_23 hx hy
  · rcases hy with hy | hy | hy
    · exact bef_31 hx hy
    · exact bef_32 hx hy
    · exact bef_33 hx hy
end Go.Proofs.YtgjjdfhoakailaaGreat
namespace Go.Proofs.YtgjjdfhoakailaaGreat
open Go.RowKit Go.Maps Go.Sort Go.Shelf
set_option linter.unusedVariables false
set_option linter.unusedSimpArgs false

theorem flat_len {α : Type} {enc : α → List Value} {sz : Nat} (hk : ∀ x, (enc x).length = sz) (l : List α) : (l.flatMap enc).length = l.length * sz := fm_length hk l
/-- An element of an owned row is stored. -/
theorem wpl_store_own {α : Type} {enc : α → List Value} {sz : Nat} (hk : ∀ x, (enc x).length = sz) (hone : ∀ x, ∀ v ∈ enc x, v.oneCell' = true) {P : Program} {ops : Array Oper} {rest : List Oper} {op : Oper} {a : Act} {Q : Exit → Act → World → Prop} {w : World} (hgd : op.guard = none) (ty : TypeId) (x y : Operand) (ho : op.op = .store ty x y) (base g j n c q : Nat) (E : TypeId) (l : List α) (i : α) (hx : a.eval x = .pointer (some ⟨g, q, none⟩)) (hq : q = j * sz) (hy : a.eval y = .agg (enc i).toArray)
    (hown : w.ownsRow base E sz (.slice (some ⟨g, 0, none⟩) n c) n (l.flatMap enc)) (hl : l.length = n) (hj : j < n) (hinf : (P.info? ty).map (·.size) = some sz)
    (h : ∀ w1, w1.ownsRow base E sz (.slice (some ⟨g, 0, none⟩) n c) n ((l.set j i).flatMap enc) → w.grownBy w1 (some g) → wpList P ops Q rest (a.put op.dst undef) w1) : wpList P ops Q (op :: rest) a w := by
  subst hq
  have hmul : (j + 1) * sz ≤ n * sz := Nat.mul_le_mul_right _ hj
  rw [Nat.succ_mul] at hmul
  have hjl : j < l.length := by omega
  rcases hown.2 with ⟨h0, _⟩ | ⟨g', cap, cur, hv', hb, hg, hnc, hcm, hcs, ht⟩
  · cases h0
  · injection hv' with a1 a2 a3
    injection a1 with a1
    injection a1 with a1
    subst a1 a3
    have hB : Blk w g E cur := hg
    have hcn : n * sz ≤ c * sz := Nat.mul_le_mul_right _ hnc
    have hel : l.flatMap enc = (l.take j).flatMap enc ++ (enc l[j] ++ (l.drop (j + 1)).flatMap enc) := by
      have e : l = l.take j ++ l[j] :: l.drop (j + 1) := by rw [← List.drop_eq_getElem_cons hjl, List.take_append_drop]
      conv => lhs; rw [e]
      rw [List.flatMap_append, List.flatMap_cons]
    have hes : (l.set j i).flatMap enc = (l.take j).flatMap enc ++ (enc i ++ (l.drop (j + 1)).flatMap enc) := by
      rw [List.set_eq_take_append_cons_drop, if_pos hjl, List.flatMap_append, List.flatMap_cons]
    have hF : ((l.take j).flatMap enc).length = j * sz := by rw [flat_len hk, List.length_take, Nat.min_eq_left (by omega)]
    have hlenS : ((l.set j i).flatMap enc).length = n * sz := by rw [flat_len hk, List.length_set, hl]
    have hcur : cur.toList = (l.take j).flatMap enc ++ (enc l[j] ++ ((l.drop (j + 1)).flatMap enc ++ cur.toList.drop (n * sz))) := by
      have e2 : cur.toList = l.flatMap enc ++ cur.toList.drop (n * sz) := by
        conv => lhs; rw [← List.take_append_drop (n * sz) cur.toList]
        rw [ht]
      conv => lhs; rw [e2, hel]
      rw [List.append_assoc, List.append_assoc]
    have hput : (putAt cur (j * sz) (enc i)).toList = (l.set j i).flatMap enc ++ cur.toList.drop (n * sz) := by
      have e3 := put_mid (l := cur.toList) (l' := (l.set j i).flatMap enc ++ cur.toList.drop (n * sz)) ((l.take j).flatMap enc) ((l.drop (j + 1)).flatMap enc ++ cur.toList.drop (n * sz)) (enc l[j]) (enc i) (j * sz) hcur (by rw [hes, List.append_assoc, List.append_assoc]) hF (by rw [hk, hk])
      rw [Array.toArray_toList] at e3
      rw [e3, toArr]
    refine wpList_store_mid hgd ty x y ho g (j * sz) (enc i).toArray hx hy (hB.isThere (j * sz) _ (by simp [hk]; omega)) (by rw [hinf]; simp [hk]) (by have := all_oneCell_toArray (hone i); simpa using this) (h _ ⟨hlenS, .inr ⟨g, c, _, rfl, hb, Blk.puts (enc i) w cur (j * sz) hB, hnc, hcm, by rw [size_putAt]; exact hcs, ?_⟩⟩ (grown_setCells (g := g) (enc i) w (j * sz)).1)
    rw [hput, List.take_left' hlenS]
theorem it_i73 : (Tryz.prog.info? 56).map (·.size) = some 73 := by kernel_rfl
theorem set_mid {α : Type} {A T : List α} {s y : α} {k : Nat} (hk : A.length = k) : (A ++ s :: T).set k y = A ++ y :: T := by
  rw [List.set_append_right _ _ (by omega)]
  simp [hk]
def rowK (P D : List It) (k : Nat) (s : It) : List It := P.take k ++ s :: (P.drop k ++ D)
theorem rowK_len {P D : List It} {k : Nat} (hk : k ≤ P.length) (s : It) : (rowK P D k s).length = P.length + 1 + D.length := by
  unfold rowK
  simp only [List.length_append, List.length_cons, List.length_take, List.length_drop]
  omega
theorem rowK_step {P D : List It} {j : Nat} (hj : j < P.length) (s : It) : (rowK P D (j + 1) s).set (j + 1) P[j] = rowK P D j P[j] := by
  unfold rowK
  rw [set_mid (by rw [List.length_take]; omega), List.take_succ_eq_append_getElem hj, List.append_assoc, List.drop_eq_getElem_cons hj]
  rfl
theorem rowK_end {P D : List It} {k : Nat} (hk : k ≤ P.length) (s x : It) : (rowK P D k s).set k x = (P.take k ++ x :: P.drop k) ++ D := by
  unfold rowK
  rw [set_mid (by rw [List.length_take]; omega), List.append_assoc]
  rfl
theorem rowK_get {P D : List It} {j : Nat} (hj : j < P.length) (s : It) (h : j < (rowK P D (j + 1) s).length) : (rowK P D (j + 1) s)[j] = P[j] := by
  have e : (rowK P D (j + 1) s)[j]? = some P[j] := by
    unfold rowK
    rw [List.getElem?_append_left (by rw [List.length_take]; omega), List.getElem?_take, if_pos (by omega), List.getElem?_eq_getElem hj]
  rw [List.getElem?_eq_getElem h] at e
  injection e
theorem ins_ok {l S P : List It} {x : It} {i k : Nat} (hlS : l.Perm S) (hS : SortedI S) (hP : P.Perm (l.take i)) (hs : SortedI P) (hi : i < l.length) (hx : x = l[i]) (hk : k ≤ P.length) (hd : ∀ y ∈ P.drop k, befI x y = true) (ht : ∀ j, k = j + 1 → ∀ hj : j < P.length, befI x P[j] = false) :
    SortedI (P.take k ++ x :: P.drop k) ∧ (P.take k ++ x :: P.drop k).Perm (l.take (i + 1)) := by
  refine ⟨ins_sorted hk hs hd (fun j hkj hj => ?_), ?_⟩
  · have hm : P[j] ∈ l.take i := hP.mem_iff.1 (List.getElem_mem hj)
    have hxm : x ∈ l := by rw [hx]; exact List.getElem_mem hi
    have hnS : S.Nodup := List.Pairwise.imp (fun {a b} (h : befI a b = true) (e : a = b) => by subst e; exact befI_asymm h h) hS
    have hnd : l.Nodup := hlS.nodup_iff.2 hnS
    have hne : P[j] ≠ x := by
      rw [← List.take_append_drop i l] at hnd
      have h2 := (List.nodup_append.1 hnd).2.2 P[j] hm x (by rw [hx, List.drop_eq_getElem_cons hi]; exact List.mem_cons_self ..)
      exact h2
    rcases sorted_total hS (hlS.mem_iff.1 (List.mem_of_mem_take hm)) (hlS.mem_iff.1 hxm) hne with h | h
    · exact h
    · rw [ht j hkj hj] at h
      cases h
  · rw [List.take_succ_eq_append_getElem hi, ← hx]
    exact (ins_perm P x k).trans (hP.append_right [x])
theorem own_form {w : World} {base sz n c : Nat} {E : TypeId} {A : Option Addr} {ys : List Value} (h : w.ownsRow base E sz (.slice A n c) n ys) (hn : 0 < n) : ∃ g, A = some ⟨g, 0, none⟩ ∧ base ≤ g ∧ g < w.heap.size := by
  obtain ⟨g, c', hv, h1, h2⟩ := h.form hn
  injection hv with hA
  exact ⟨g, hA, h1, h2⟩
def ItI (w1 : World) (l : List It) (A : Option Addr) (m c : Nat) (k : Nat) (iv : Value) (wr : World) : Prop :=
  ∃ (i : Nat) (P : List It), iv = .int .i64 (i : Int) ∧ 1 ≤ i ∧ i + k ≤ m + 1 ∧ m + 1 ≤ i + k ∧ i ≤ m + 1 ∧ P.Perm (l.take i) ∧ SortedI P ∧ wr.ownsRow w1.heap.size 56 73 (.slice A m c) m (itsC (P ++ l.drop i)) ∧ Below w1.heap.size w1 wr
set_option maxRecDepth 100000 in
set_option maxHeartbeats 4000000 in
theorem rItems_any {w : World} {B xs n m c : Nat} {A : Option Addr} {l S : List It} (h : RfIs w B xs n m c A l) (hmm : m ≤ 1000000) (hp : l.Perm S) (hs : SortedI S) (hk : ∀ x ∈ S, x.kind = 1 ∨ x.kind = 2 ∨ x.kind = 3) :
    Calls Tryz.prog 20 #[.pointer (some ⟨xs, 0, none⟩)] w (MItPost S w) := by
  have HS := Lib.hid h
  have HLm := Lib.hid h.len
  have HP := Lib.hid hp
  have HSt := Lib.hid hs
  have HK := Lib.hid hk
  clear h hp hs hk
  have s1 := HS.out.c1
  obtain ⟨w1, hw1⟩ : ∃ v, v = w := ⟨_, rfl⟩
  have HS1 := Lib.hid (show RfIs w1 B xs n m c A l by rw [hw1]; exact HS.out)
  rw [← hw1] at s1 ⊢
  clear hw1 HS
  go_enter Tryz.func20, Tryz.ntmps20
  go_upto_region 3 with (first
    | ((with_reducible show wpList _ _ _ (_ :: _) _ _); refine wpl_lit0 rfl 41 56 (by rfl) Tryz.underlying41 info_It w1.heap.size (Nat.le_refl _) ?_; intro v2 w2 ho hg; have O2 := Lib.hid ho; have G2 := Lib.hid (bl_n (Below.refl _ w1) hg); have s1 := (HS1.out.below G2.out).c1; clear ho hg; simp only [Act.put, List.setIfInBounds_toArray, List.set_cons_zero, List.set_cons_succ])
    | ((with_reducible show wpList _ _ _ (_ :: _) _ _); refine wpl_app_its rfl (.tmp 7) (.tmp 11) (by rfl) w1.heap.size v2 [] (by rfl) O2.out _ l (by rfl) (by have := (HS1.out.below G2.out).src; rw [HLm.out]; exact this) (by simp; have := HLm.out; omega) G2.out.size ?_; intro v3 w3 ho hg; obtain ⟨A3, c3, rfl, _⟩ := own_slice ho; have O3 := Lib.hid (show w3.ownsRow w1.heap.size 56 73 (.slice A3 m c3) m (itsC l) by rw [← HLm.out]; exact ho); have G3 := Lib.hid (G2.out.grown hg G2.out.size (fun k hk => (own_at O2.out k hk).1)); clear ho hg; rewrite [show (([] : List It) ++ l).length = m from HLm.out]; simp only [Act.put, List.setIfInBounds_toArray, List.set_cons_zero, List.set_cons_succ]))
  clear O2 G2 s1
  go_loopg [4] m (fun k iv wr => ItI w1 l A3 m c3 k iv wr)
  case atStart => exact ⟨1, l.take 1, rfl, by omega, by omega, by omega, by omega, List.Perm.refl _, by
    cases l with
    | nil => exact List.Pairwise.nil
    | cons y l => simp [SortedI], by rw [List.take_append_drop]; exact O3.out, G3.out⟩
  case round =>
    obtain ⟨i, P, rfl, i1, i2, i3, i4, hP, hSP, ho, hb⟩ := hrel
    obtain ⟨wo, hwo⟩ : ∃ v, v = wr := ⟨_, rfl⟩
    rw [← hwo] at ho hb ⊢
    clear hwo O3 G3
    have HPp := Lib.hid hP
    have HPs := Lib.hid hSP
    have O := Lib.hid ho
    have LB := Lib.hid hb
    obtain ⟨g0, hg0⟩ : ∃ g, g = gk := ⟨_, rfl⟩
    have HG := Lib.hid hg0
    have hPl : P.length = min i m := by
      have h1 := hP.length_eq
      rw [List.length_take, HLm.out] at h1
      exact h1
    clear hP hSP ho hb hg0
    by_cases hi : i < m
    · have hiI : (i : Int) < (m : Int) := by omega
      have hil : i < l.length := by rw [HLm.out]; exact hi
      have hPi : P.length = i := by omega
      clear hPl
      obtain ⟨g, hA3, hg1, hg2⟩ := own_form O.out (by omega)
      subst hA3
      have hpi : i < (P ++ l.drop i).length := by rw [List.length_append, List.length_drop]; omega
      have hx0 : (P ++ l.drop i)[i] = l[i] := by
        rw [List.getElem_append_right (by omega), List.getElem_drop]
        congr 1
        omega
      obtain ⟨b', off', hA', hr⟩ := src_part itC_len (Src.of_own O.out) (by rw [List.length_append, List.length_drop, HLm.out]; omega) hpi
      injection hA' with hA'
      injection hA' with e1 e2
      subst e1 e2
      rw [hx0] at hr
      obtain ⟨x, hx⟩ : ∃ x, x = l[i] := ⟨_, rfl⟩
      rw [← hx] at hr
      have HX := Lib.hid hx
      have HXk := Lib.hid (HK.out x (HP.out.mem_iff.1 (by rw [hx]; exact List.getElem_mem hil)))
      have O0 := Lib.hid (show wo.ownsRow w1.heap.size 56 73 (.slice (some ⟨g, 0, none⟩) m c3) m (itsC (rowK P (l.drop (i + 1)) i x)) by
        have h := O.out
        rw [List.drop_eq_getElem_cons hil, ← hx] at h
        unfold rowK
        rw [List.take_of_length_le (by omega), List.drop_of_length_le (by omega)]
        exact h)
      have Rg := Lib.hid hr
      clear hr hx hx0 hpi O
      go_upto_region 7 with (first
        | ((with_reducible show wpList _ _ _ (_ :: _) _ _); refine wpl_sidx rfl 41 (.tmp 19) (.tmp 20) (by rfl) Tryz.underlying41 Tryz.sizeOf56 g 0 m c3 i (by rfl) (by rfl) hi ?_; simp only [Act.put, List.setIfInBounds_toArray, List.set_cons_zero, List.set_cons_succ])
        | ((with_reducible show wpList _ _ _ (_ :: _) _ _); refine wpList_load_mid rfl 56 (.tmp 21) (by rfl) g (0 + i * 73) (by rfl) (itC x) _ Rg.out Tryz.underlying56 rfl (itC_info x) ?_; simp only [Act.put, List.setIfInBounds_toArray, List.set_cons_zero, List.set_cons_succ])
        | ((with_reducible show wpList _ _ _ (_ :: _) _ _); refine wpl_alloc rfl 56 (by rfl) Tryz.zeroValue56 73 zero_It_len ?_; intro wa cs hk hc hg hz; have K := Lib.hid hk; have C := Lib.hid hc; have G := Lib.hid (bl_n (Below.refl _ wo) hg); clear hk hc hg hz; simp only [Act.put, List.setIfInBounds_toArray, List.set_cons_zero, List.set_cons_succ])
        | ((with_reducible show wpList _ _ _ (_ :: _) _ _); refine wpl_over rfl 56 (.tmp 5) (.tmp 22) (by rfl) wo.heap.size (itC x) (by rfl) (by rfl) _ cs K.out (itC_info x) (by rw [itC_len, C.out]) (itC_one x) ?_; intro wb hk hg hz; have K2 := Lib.hid hk; have L2 := Lib.hid (bl_g G.out hg (Nat.le_refl _)); clear hk hg hz; simp only [Act.put, List.setIfInBounds_toArray, List.set_cons_zero, List.set_cons_succ]))
      clear K C G Rg
      have Lb := Lib.hid (below_chain LB.out L2.out)
      have Ob := Lib.hid (own_belowR O0.out L2.out)
      have hgo : g < wo.heap.size := hg2
      go_loopg [6] i (fun kk kv wk => ∃ (k : Nat) (s : It), kv = .int .i64 (k : Int) ∧ k ≤ kk ∧ kk ≤ k ∧ k ≤ i ∧ (∀ y ∈ P.drop k, befI x y = true) ∧ wk.ownsRow w1.heap.size 56 73 (.slice (some ⟨g, 0, none⟩) m c3) m (itsC (rowK P (l.drop (i + 1)) k s)) ∧ Blk wk wo.heap.size 56 (itC x).toArray ∧ Below w1.heap.size w1 wk)
      case atStart => exact ⟨i, x, rfl, by omega, by omega, by omega, (fun y hy => by rw [List.drop_of_length_le (by omega)] at hy; cases hy), Ob.out, K2.out, Lb.out⟩
      case round =>
        obtain ⟨k, s, rfl, hkk, hkk2, hki, hd, ho, hK, hb⟩ := hrel
        clear K2 L2 Lb Ob O0 LB
        have HD := Lib.hid hd
        have O2 := Lib.hid ho
        have K2 := Lib.hid hK
        have LK2 := Lib.hid hb
        have RX2 := Lib.hid (show wr.rangeAt wo.heap.size 0 (itC x) by have := K2.out.range; rwa [toArr] at this)
        clear hd ho hK hb
        cases k with
        | zero =>
          have HIn := Lib.hid (ins_ok HP.out HSt.out HPp.out HPs.out hil HX.out (Nat.zero_le _) HD.out (fun j hj => by cases hj))
          go_upto_region 7 with fail
          refine wp_region_qs (fun _ w' => w'.rangeAt wo.heap.size 0 (itC x)) [(0, some 1), (1, some 1), (2, some 0), (3, some 0), (4, some 1), (5, some 1), (6, some 1), (7, some 1), (8, some 0), (9, none), (10, some 1)] (by kernel_rfl) (by kernel_rfl) (by kernel_rfl) (by kernel_rfl) (by kernel_rfl) (fun _ _ _ _ _ h => h) RX2.out ?_
          simp only [List.map_cons, List.map_nil, List.getD_cons_succ, List.getD_cons_zero]
          (repeat (first | (refine qs_now (v := ?_) (by rfl) ?_ ?_; rotate_left 1; (· (intro w' hS; go_simp; (try (simp only [↓IntWalk.iteOmega]; go_simp)); (try simp (disch := omega) only [IntWalk.i64_in]); try with_reducible rfl)); simp only [Act.put, List.setIfInBounds_toArray, List.set_cons_zero, List.set_cons_succ]) | (refine qs_run (v := ?_) (by rfl) ?_ ?_; rotate_left 1; (· (intro j w' hS; go_simp; (try (simp only [↓IntWalk.iteOmega]; go_simp)); (try simp (disch := omega) only [IntWalk.i64_in]); try with_reducible rfl)); simp only [Act.put, List.setIfInBounds_toArray, List.set_cons_zero, List.set_cons_succ]) | (refine qs_mid (v := ?_) (by rfl) ?_ ?_; rotate_left 1; (· (intro j w' hj1 hj2 hS; go_simp; (try (simp only [↓IntWalk.iteOmega]; go_simp)); (try simp (disch := omega) only [IntWalk.i64_in]); try with_reducible rfl)); simp only [Act.put, List.setIfInBounds_toArray, List.set_cons_zero, List.set_cons_succ]) | (refine qs_skip (by rfl) ?_; simp only [Act.put, List.setIfInBounds_toArray, List.set_cons_zero, List.set_cons_succ])))
          refine qs_act ?_
          go_wp2_with fail
          refine ⟨RX2.out, ?_⟩
          (repeat (first | (refine qs_now (v := ?_) (by rfl) ?_ ?_; rotate_left 1; (· (intro w' hS; go_simp; (try (simp only [↓IntWalk.iteOmega]; go_simp)); (try simp (disch := omega) only [IntWalk.i64_in]); try with_reducible rfl)); simp only [Act.put, List.setIfInBounds_toArray, List.set_cons_zero, List.set_cons_succ]) | (refine qs_run (v := ?_) (by rfl) ?_ ?_; rotate_left 1; (· (intro j w' hS; go_simp; (try (simp only [↓IntWalk.iteOmega]; go_simp)); (try simp (disch := omega) only [IntWalk.i64_in]); try with_reducible rfl)); simp only [Act.put, List.setIfInBounds_toArray, List.set_cons_zero, List.set_cons_succ]) | (refine qs_mid (v := ?_) (by rfl) ?_ ?_; rotate_left 1; (· (intro j w' hj1 hj2 hS; go_simp; (try (simp only [↓IntWalk.iteOmega]; go_simp)); (try simp (disch := omega) only [IntWalk.i64_in]); try with_reducible rfl)); simp only [Act.put, List.setIfInBounds_toArray, List.set_cons_zero, List.set_cons_succ]) | (refine qs_skip (by rfl) ?_; simp only [Act.put, List.setIfInBounds_toArray, List.set_cons_zero, List.set_cons_succ])))
          refine qs_nil ?_
          obtain ⟨w4, hw4⟩ : ∃ v, v = wr.drew := ⟨_, rfl⟩
          have LK3 := Lib.hid (show Below w1.heap.size w1 w4 by rw [hw4]; exact LK2.out.drew)
          have O3 := Lib.hid (show w4.ownsRow w1.heap.size 56 73 (.slice (some ⟨g, 0, none⟩) m c3) m (itsC (rowK P (l.drop (i + 1)) 0 s)) by rw [hw4]; exact own_belowR O2.out (Below.refl _ _).drew)
          have RX3 := Lib.hid (show w4.rangeAt wo.heap.size 0 (itC x) by rw [hw4]; exact RX2.out)
          rw [← hw4]
          clear hw4 RX2 O2 LK2
          have LK2 := LK3
          have O2 := O3
          have RX2 := RX3
          clear LK3 O3 RX3
          go_upto_region 4 with (first
            | ((with_reducible show wpList _ _ _ (_ :: _) _ _); refine wpl_sidx rfl 41 (.tmp 45) (.tmp 46) (by rfl) Tryz.underlying41 Tryz.sizeOf56 g 0 m c3 (0) (by rfl) (by rfl) (by omega) ?_; simp only [Act.put, List.setIfInBounds_toArray, List.set_cons_zero, List.set_cons_succ])
            | ((with_reducible show wpList _ _ _ (_ :: _) _ _); refine wpList_load_mid rfl 56 (.tmp 5) (by rfl) wo.heap.size 0 (by rfl) (itC x) _ RX2.out Tryz.underlying56 rfl (itC_info x) ?_; simp only [Act.put, List.setIfInBounds_toArray, List.set_cons_zero, List.set_cons_succ])
            | ((with_reducible show wpList _ _ _ (_ :: _) _ _); refine wpl_store_own itC_len itC_one rfl 56 (.tmp 48) (.tmp 47) (by rfl) w1.heap.size g (0) m c3 _ 56 (rowK P (l.drop (i + 1)) (0) s) x (by rfl) (by omega) (by rfl) O2.out (by rw [rowK_len (by omega), List.length_drop, HLm.out]; omega) (by omega) it_i73 ?_; intro w6 ho hg; have O6 := Lib.hid (show w6.ownsRow w1.heap.size 56 73 (.slice (some ⟨g, 0, none⟩) m c3) m (itsC ((rowK P (l.drop (i + 1)) (0) s).set (0) x)) from ho); have L6 := Lib.hid (LK2.out.grown hg LK2.out.size (fun k hk => by injection hk with hk; omega)); clear ho hg; simp only [Act.put, List.setIfInBounds_toArray, List.set_cons_zero, List.set_cons_succ]))
          have O7 := Lib.hid (show w6.ownsRow w1.heap.size 56 73 (.slice (some ⟨g, 0, none⟩) m c3) m (itsC ((P.take (0) ++ x :: P.drop (0)) ++ l.drop (i + 1))) by have h := O6.out; rwa [rowK_end (by omega)] at h)
          go_wp2_with fail
          go_roundg (g0 - 1)
          case measure => have h := HG.out; omega
          case rel => have h := HG.out; exact ⟨i + 1, P.take (0) ++ x :: P.drop (0), by congr 1, by omega, by omega, by omega, by omega, HIn.out.2, HIn.out.1, O7.out, L6.out⟩
        | succ j =>
          have hj : j < P.length := by omega
          have hjm : j < m := by omega
          have hjI : (j : Int) < (m : Int) := by omega
          have hpos : 0 < ((j + 1 : Nat) : Int) := by omega
          have hw : IntKind.i64.wrap (((j + 1 : Nat) : Int) - 1) = (j : Int) := by rw [show ((j + 1 : Nat) : Int) - 1 = (j : Int) by omega]; exact IntWalk.i64_in _ (by omega)
          have hjl : j < (rowK P (l.drop (i + 1)) (j + 1) s).length := by rw [rowK_len (by omega)]; omega
          obtain ⟨b', off', hA', hr⟩ := src_part itC_len (Src.of_own O2.out) (by rw [rowK_len (by omega), List.length_drop, HLm.out]; omega) hjl
          injection hA' with hA'
          injection hA' with e1 e2
          subst e1 e2
          rw [rowK_get hj] at hr
          have HYk := Lib.hid (HK.out P[j] (HP.out.mem_iff.1 (List.mem_of_mem_take (HPp.out.mem_iff.1 (List.getElem_mem hj)))))
          have HStp := Lib.hid (rowK_step (D := l.drop (i + 1)) hj s)
          have HDn := Lib.hid (show befI x P[j] = true → ∀ y ∈ P.drop j, befI x y = true from fun hb y hy => by
            rw [List.drop_eq_getElem_cons hj] at hy
            rcases List.mem_cons.1 hy with rfl | hy
            · exact hb
            · exact HD.out y hy)
          have HIq := Lib.hid (show befI x P[j] = false → SortedI (P.take (j + 1) ++ x :: P.drop (j + 1)) ∧ (P.take (j + 1) ++ x :: P.drop (j + 1)).Perm (l.take (i + 1)) from fun hb =>
            ins_ok HP.out HSt.out HPp.out HPs.out hil HX.out (by omega) HD.out (fun q hq hqp => by obtain rfl : q = j := by omega
                                                                                                   exact hb))
          obtain ⟨y, hy⟩ : ∃ y, y = P[j] := ⟨_, rfl⟩
          rw [← hy] at hr HYk HStp HDn HIq
          have RY2 := Lib.hid (show wr.rangeAt g (j * 73) (itC y) by rw [Nat.zero_add] at hr; exact hr)
          clear hr hy
          obtain ⟨bb, hbb⟩ : ∃ b, b = befI x y := ⟨_, rfl⟩
          have HBb := Lib.hid hbb
          rw [← hbb] at HDn HIq
          clear hbb
          cases bb
          case true =>
            have HDq := Lib.hid (HDn.out (by trivial))
            go_upto_region 7 with fail
            refine wp_region_qs (fun _ w' => w'.rangeAt wo.heap.size 0 (itC x) ∧ w'.rangeAt g (j * 73) (itC y)) [(0, some 1), (1, some 1), (2, some 0), (3, some 0), (4, some 1), (5, some 1), (6, some 1), (7, some 1), (8, some 0), (9, none), (10, some 1)] (by kernel_rfl) (by kernel_rfl) (by kernel_rfl) (by kernel_rfl) (by kernel_rfl) (fun _ _ _ _ _ h => h) ⟨RX2.out, RY2.out⟩ ?_
            simp only [List.map_cons, List.map_nil, List.getD_cons_succ, List.getD_cons_zero]
            (repeat (first | ((first | (refine qs_row (by rfl) 56 (.tmp 5) (by rfl) wo.heap.size 0 (by rfl) (itC x) _ (fun j w' _ h2 h => h.1) Tryz.underlying56 rfl (itC_info _) ?_) | (refine qs_row (by rfl) 56 (.tmp 31) (by rfl) g (j * 73) (by rfl) (itC y) _ (fun j w' _ h2 h => h.2) Tryz.underlying56 rfl (itC_info _) ?_)); simp only [Act.put, List.setIfInBounds_toArray, List.set_cons_zero, List.set_cons_succ]) | (refine qs_now (v := ?_) (by rfl) ?_ ?_; rotate_left 1; (· (intro w' hS; go_simp; (try (simp only [↓IntWalk.iteOmega]; go_simp)); (try simp (disch := omega) only [IntWalk.i64_in]); try with_reducible rfl)); simp only [Act.put, List.setIfInBounds_toArray, List.set_cons_zero, List.set_cons_succ]) | (refine qs_run (v := ?_) (by rfl) ?_ ?_; rotate_left 1; (· (intro j w' hS; go_simp; (try (simp only [↓IntWalk.iteOmega]; go_simp)); (try simp (disch := omega) only [IntWalk.i64_in]); try with_reducible rfl)); simp only [Act.put, List.setIfInBounds_toArray, List.set_cons_zero, List.set_cons_succ]) | (refine qs_mid (v := ?_) (by rfl) ?_ ?_; rotate_left 1; (· (intro j w' hj1 hj2 hS; go_simp; (try (simp only [↓IntWalk.iteOmega]; go_simp)); (try simp (disch := omega) only [IntWalk.i64_in]); try with_reducible rfl)); simp only [Act.put, List.setIfInBounds_toArray, List.set_cons_zero, List.set_cons_succ]) | (refine qs_skip (by rfl) ?_; simp only [Act.put, List.setIfInBounds_toArray, List.set_cons_zero, List.set_cons_succ])))
            refine qs_act ?_
            go_wp2_with (go_at_call 63; refine (before_any HXk.out HYk.out).mono ?_; rintro e w5 ⟨rfl, hb⟩; rewrite [← HBb.out]; have Hb5 := Lib.hid hb; clear hb)
            refine ⟨⟨blk_rng (w := wr.drew) RX2.out Hb5.out (by rw [itC_len]; omega), blk_rng (w := wr.drew) RY2.out Hb5.out (by rw [itC_len]; omega)⟩, ?_⟩
            (repeat (first | (refine qs_now (v := ?_) (by rfl) ?_ ?_; rotate_left 1; (· (intro w' hS; go_simp; (try (simp only [↓IntWalk.iteOmega]; go_simp)); (try simp (disch := omega) only [IntWalk.i64_in]); try with_reducible rfl)); simp only [Act.put, List.setIfInBounds_toArray, List.set_cons_zero, List.set_cons_succ]) | (refine qs_run (v := ?_) (by rfl) ?_ ?_; rotate_left 1; (· (intro j w' hS; go_simp; (try (simp only [↓IntWalk.iteOmega]; go_simp)); (try simp (disch := omega) only [IntWalk.i64_in]); try with_reducible rfl)); simp only [Act.put, List.setIfInBounds_toArray, List.set_cons_zero, List.set_cons_succ]) | (refine qs_mid (v := ?_) (by rfl) ?_ ?_; rotate_left 1; (· (intro j w' hj1 hj2 hS; go_simp; (try (simp only [↓IntWalk.iteOmega]; go_simp)); (try simp (disch := omega) only [IntWalk.i64_in]); try with_reducible rfl)); simp only [Act.put, List.setIfInBounds_toArray, List.set_cons_zero, List.set_cons_succ]) | (refine qs_skip (by rfl) ?_; simp only [Act.put, List.setIfInBounds_toArray, List.set_cons_zero, List.set_cons_succ])))
            refine qs_nil ?_
            have LK3 := Lib.hid (below_chain LK2.out.drew Hb5.out)
            have O3 := Lib.hid (own_belowR O2.out (below_chain (Below.refl _ wr).drew Hb5.out))
            have K3 := Lib.hid (K2.out.drew.below Hb5.out K2.out.lt)
            have RY3 := Lib.hid (show w5.rangeAt g (0 + j * 73) (itC y) by rw [Nat.zero_add]; exact blk_rng (w := wr.drew) RY2.out Hb5.out (by rw [itC_len]; omega))
            clear HDn HIq RX2 RY2 O2 K2 LK2
            go_upto_region 9 with (first
              | ((with_reducible show wpList _ _ _ (_ :: _) _ _); refine wpl_sidx rfl 41 (.tmp 37) (.tmp 39) (by rfl) Tryz.underlying41 Tryz.sizeOf56 g 0 m c3 j (by rfl) (by rfl) hjm ?_; simp only [Act.put, List.setIfInBounds_toArray, List.set_cons_zero, List.set_cons_succ])
              | ((with_reducible show wpList _ _ _ (_ :: _) _ _); refine wpList_load_mid rfl 56 (.tmp 40) (by rfl) g (0 + j * 73) (by rfl) (itC y) _ RY3.out Tryz.underlying56 rfl (itC_info y) ?_; simp only [Act.put, List.setIfInBounds_toArray, List.set_cons_zero, List.set_cons_succ])
              | ((with_reducible show wpList _ _ _ (_ :: _) _ _); refine wpl_sidx rfl 41 (.tmp 35) (.tmp 36) (by rfl) Tryz.underlying41 Tryz.sizeOf56 g 0 m c3 (j + 1) (by rfl) (by rfl) (by omega) ?_; simp only [Act.put, List.setIfInBounds_toArray, List.set_cons_zero, List.set_cons_succ])
              | ((with_reducible show wpList _ _ _ (_ :: _) _ _); refine wpl_store_own itC_len itC_one rfl 56 (.tmp 42) (.tmp 41) (by rfl) w1.heap.size g (j + 1) m c3 _ 56 (rowK P (l.drop (i + 1)) (j + 1) s) y (by rfl) (by omega) (by rfl) O3.out (by rw [rowK_len (by omega), List.length_drop, HLm.out]; omega) (by omega) it_i73 ?_; intro w6 ho hg; have O6 := Lib.hid (show w6.ownsRow w1.heap.size 56 73 (.slice (some ⟨g, 0, none⟩) m c3) m (itsC ((rowK P (l.drop (i + 1)) (j + 1) s).set (j + 1) y)) from ho); have L6 := Lib.hid (LK3.out.grown hg LK3.out.size (fun k hk => by injection hk with hk; omega)); have K6 := Lib.hid (K3.out.grown hg (fun e => by injection e with e; omega)); clear ho hg; simp only [Act.put, List.setIfInBounds_toArray, List.set_cons_zero, List.set_cons_succ]))
            have O7 := Lib.hid (show w6.ownsRow w1.heap.size 56 73 (.slice (some ⟨g, 0, none⟩) m c3) m (itsC (rowK P (l.drop (i + 1)) j y)) by have h := O6.out; rwa [HStp.out] at h)
            go_wp2_with fail
            go_roundg (gk - 1)
            case measure => omega
            case rel => exact ⟨j, y, by congr 1, by omega, by omega, by omega, HDq.out, O7.out, K6.out, L6.out⟩
          case false =>
            have HIn := Lib.hid (HIq.out (by trivial))
            go_upto_region 7 with fail
            refine wp_region_qs (fun _ w' => w'.rangeAt wo.heap.size 0 (itC x) ∧ w'.rangeAt g (j * 73) (itC y)) [(0, some 1), (1, some 1), (2, some 0), (3, some 0), (4, some 1), (5, some 1), (6, some 1), (7, some 1), (8, some 0), (9, none), (10, some 1)] (by kernel_rfl) (by kernel_rfl) (by kernel_rfl) (by kernel_rfl) (by kernel_rfl) (fun _ _ _ _ _ h => h) ⟨RX2.out, RY2.out⟩ ?_
            simp only [List.map_cons, List.map_nil, List.getD_cons_succ, List.getD_cons_zero]
            (repeat (first | ((first | (refine qs_row (by rfl) 56 (.tmp 5) (by rfl) wo.heap.size 0 (by rfl) (itC x) _ (fun j w' _ h2 h => h.1) Tryz.underlying56 rfl (itC_info _) ?_) | (refine qs_row (by rfl) 56 (.tmp 31) (by rfl) g (j * 73) (by rfl) (itC y) _ (fun j w' _ h2 h => h.2) Tryz.underlying56 rfl (itC_info _) ?_)); simp only [Act.put, List.setIfInBounds_toArray, List.set_cons_zero, List.set_cons_succ]) | (refine qs_now (v := ?_) (by rfl) ?_ ?_; rotate_left 1; (· (intro w' hS; go_simp; (try (simp only [↓IntWalk.iteOmega]; go_simp)); (try simp (disch := omega) only [IntWalk.i64_in]); try with_reducible rfl)); simp only [Act.put, List.setIfInBounds_toArray, List.set_cons_zero, List.set_cons_succ]) | (refine qs_run (v := ?_) (by rfl) ?_ ?_; rotate_left 1; (· (intro j w' hS; go_simp; (try (simp only [↓IntWalk.iteOmega]; go_simp)); (try simp (disch := omega) only [IntWalk.i64_in]); try with_reducible rfl)); simp only [Act.put, List.setIfInBounds_toArray, List.set_cons_zero, List.set_cons_succ]) | (refine qs_mid (v := ?_) (by rfl) ?_ ?_; rotate_left 1; (· (intro j w' hj1 hj2 hS; go_simp; (try (simp only [↓IntWalk.iteOmega]; go_simp)); (try simp (disch := omega) only [IntWalk.i64_in]); try with_reducible rfl)); simp only [Act.put, List.setIfInBounds_toArray, List.set_cons_zero, List.set_cons_succ]) | (refine qs_skip (by rfl) ?_; simp only [Act.put, List.setIfInBounds_toArray, List.set_cons_zero, List.set_cons_succ])))
            refine qs_act ?_
            go_wp2_with (go_at_call 63; refine (before_any HXk.out HYk.out).mono ?_; rintro e w5 ⟨rfl, hb⟩; rewrite [← HBb.out]; have Hb5 := Lib.hid hb; clear hb)
            refine ⟨⟨blk_rng (w := wr.drew) RX2.out Hb5.out (by rw [itC_len]; omega), blk_rng (w := wr.drew) RY2.out Hb5.out (by rw [itC_len]; omega)⟩, ?_⟩
            (repeat (first | (refine qs_now (v := ?_) (by rfl) ?_ ?_; rotate_left 1; (· (intro w' hS; go_simp; (try (simp only [↓IntWalk.iteOmega]; go_simp)); (try simp (disch := omega) only [IntWalk.i64_in]); try with_reducible rfl)); simp only [Act.put, List.setIfInBounds_toArray, List.set_cons_zero, List.set_cons_succ]) | (refine qs_run (v := ?_) (by rfl) ?_ ?_; rotate_left 1; (· (intro j w' hS; go_simp; (try (simp only [↓IntWalk.iteOmega]; go_simp)); (try simp (disch := omega) only [IntWalk.i64_in]); try with_reducible rfl)); simp only [Act.put, List.setIfInBounds_toArray, List.set_cons_zero, List.set_cons_succ]) | (refine qs_mid (v := ?_) (by rfl) ?_ ?_; rotate_left 1; (· (intro j w' hj1 hj2 hS; go_simp; (try (simp only [↓IntWalk.iteOmega]; go_simp)); (try simp (disch := omega) only [IntWalk.i64_in]); try with_reducible rfl)); simp only [Act.put, List.setIfInBounds_toArray, List.set_cons_zero, List.set_cons_succ]) | (refine qs_skip (by rfl) ?_; simp only [Act.put, List.setIfInBounds_toArray, List.set_cons_zero, List.set_cons_succ])))
            refine qs_nil ?_
            have LK3 := Lib.hid (below_chain LK2.out.drew Hb5.out)
            have O3 := Lib.hid (own_belowR O2.out (below_chain (Below.refl _ wr).drew Hb5.out))
            have K3 := Lib.hid (K2.out.drew.below Hb5.out K2.out.lt)
            clear HDn HIq RX2 RY2 O2 K2 LK2
            have LK2 := LK3
            have O2 := O3
            have RX2 := Lib.hid (show w5.rangeAt wo.heap.size 0 (itC x) by have := K3.out.range; rwa [toArr] at this)
            clear LK3 O3 K3
            go_upto_region 4 with (first
              | ((with_reducible show wpList _ _ _ (_ :: _) _ _); refine wpl_sidx rfl 41 (.tmp 45) (.tmp 46) (by rfl) Tryz.underlying41 Tryz.sizeOf56 g 0 m c3 (j+1) (by rfl) (by rfl) (by omega) ?_; simp only [Act.put, List.setIfInBounds_toArray, List.set_cons_zero, List.set_cons_succ])
              | ((with_reducible show wpList _ _ _ (_ :: _) _ _); refine wpList_load_mid rfl 56 (.tmp 5) (by rfl) wo.heap.size 0 (by rfl) (itC x) _ RX2.out Tryz.underlying56 rfl (itC_info x) ?_; simp only [Act.put, List.setIfInBounds_toArray, List.set_cons_zero, List.set_cons_succ])
              | ((with_reducible show wpList _ _ _ (_ :: _) _ _); refine wpl_store_own itC_len itC_one rfl 56 (.tmp 48) (.tmp 47) (by rfl) w1.heap.size g (j+1) m c3 _ 56 (rowK P (l.drop (i + 1)) (j+1) s) x (by rfl) (by omega) (by rfl) O2.out (by rw [rowK_len (by omega), List.length_drop, HLm.out]; omega) (by omega) it_i73 ?_; intro w6 ho hg; have O6 := Lib.hid (show w6.ownsRow w1.heap.size 56 73 (.slice (some ⟨g, 0, none⟩) m c3) m (itsC ((rowK P (l.drop (i + 1)) (j+1) s).set (j+1) x)) from ho); have L6 := Lib.hid (LK2.out.grown hg LK2.out.size (fun k hk => by injection hk with hk; omega)); clear ho hg; simp only [Act.put, List.setIfInBounds_toArray, List.set_cons_zero, List.set_cons_succ]))
            have O7 := Lib.hid (show w6.ownsRow w1.heap.size 56 73 (.slice (some ⟨g, 0, none⟩) m c3) m (itsC ((P.take (j+1) ++ x :: P.drop (j+1)) ++ l.drop (i + 1))) by have h := O6.out; rwa [rowK_end (by omega)] at h)
            go_wp2_with fail
            go_roundg (g0 - 1)
            case measure => have h := HG.out; omega
            case rel => have h := HG.out; exact ⟨i + 1, P.take (j+1) ++ x :: P.drop (j+1), by congr 1, by omega, by omega, by omega, by omega, HIn.out.2, HIn.out.1, O7.out, L6.out⟩
    · have hiI : ¬ (i : Int) < (m : Int) := by omega
      have HF := Lib.hid (show P = S by
        have h1 := HPp.out
        rw [List.take_of_length_le (by rw [HLm.out]; omega)] at h1
        exact sorted_eq HPs.out HSt.out (h1.trans HP.out))
      have HO := Lib.hid (show wo.ownsRow w1.heap.size 56 73 (.slice A3 m c3) S.length (itsC S) by
        have h := O.out
        rw [List.drop_of_length_le (by rw [HLm.out]; omega), List.append_nil, HF.out] at h
        have e : S.length = m := by rw [← HP.out.length_eq, HLm.out]
        rw [e]
        exact h)
      go_wp2_with fail
      go_ret
      exact ⟨_, rfl, HO.out, LB.out⟩
end Go.Proofs.YtgjjdfhoakailaaGreat
namespace Go.Proofs.YtgjjdfhoakailaaGreat
open Go.RowKit Go.Maps Go.Sort Go.Shelf
set_option linter.unusedVariables false
set_option linter.unusedSimpArgs false

theorem built_rf (n : Int) (A : Option Addr) (m c : Nat) : Tryz.prog.built 80 [(0, .int .i64 n), (1, .slice A m c)] = some #[.int .i64 n, .slice A m c] := by kernel_rfl
end Go.Proofs.YtgjjdfhoakailaaGreat
