/-
  what this claim needs of: PnH6, PnH7 (written by cut.py).
-/
import Derived.Test.YtpadifphnbdbpaaGreatPPnH1
namespace Go.Proofs.YtpadifphnbdbpaaGreat
open Go.RowKit Go.Maps
set_option linter.unusedVariables false
set_option linter.unusedSimpArgs false
theorem zHd_neq (w : World) : (binOp BinOp.neq 25 (.agg (hdC zHd).toArray) (.agg (hdC zHd).toArray)).run Tryz.prog w = .ok (.bool false) w := by kernel_rfl
theorem zHd_eql (w : World) : (binOp BinOp.eql 25 (.agg (hdC zHd).toArray) (.agg (hdC zHd).toArray)).run Tryz.prog w = .ok (.bool true) w := by kernel_rfl
def smHd : Hd := ⟨⟨64, 4, 32, 1, 8⟩, 1, 1, 0, 5⟩
theorem smHd_neq (w : World) : (binOp BinOp.neq 25 (.agg (hdC smHd).toArray) (.agg (hdC zHd).toArray)).run Tryz.prog w = .ok (.bool true) w := by kernel_rfl
section
variable {P : Program} {w : World} {ops : Array Oper} {rest : List Oper} {o : Oper} {a : Act} {Q : Exit → Act → World → Prop}
theorem wpl_valP (hw : Region.wanted o (yielded ops a.tmps) = true) {v : Value} (hrun : (execOp a.eval o).run P w = .ok (.value v) w) (h : wpList P ops Q rest (a.put o.dst v) w) : wpList P ops Q (o :: rest) a w := by
  refine wpList_step fun K hK => ?_
  rw [if_pos hw]
  unfold Oper.wp
  rw [hrun]
  simp only [Oper.upon_value]
  exact hK _ _ h
end
section
theorem wpl_skipP {P : Program} {w : World} {ops : Array Oper} {rest : List Oper} {o : Oper} {a : Act} {Q : Exit → Act → World → Prop} (hw : Region.wanted o (yielded ops a.tmps) = false) (h : wpList P ops Q rest (a.put o.dst undef) w) : wpList P ops Q (o :: rest) a w := by
  refine wpList_step fun K hK => ?_
  rw [if_neg (by rw [hw]; decide)]
  exact hK _ _ h
theorem pick_run {x y z : Operand} {o : Oper} {a : Act} {w : World} {v : Value} (ho : o.op = .pick x y z) (hx : a.eval x = .bool false) (hz : a.eval z = v) : (execOp a.eval o).run Tryz.prog w = .ok (.value v) w := by
  unfold execOp
  simp only [ho, hx, hz, Sem.run_bind, Sem.run_pure, Result.andThen_ok]
  rfl
theorem move_run {x : Operand} {o : Oper} {a : Act} {w : World} {v : Value} (ho : o.op = .move x) (hx : a.eval x = v) : (execOp a.eval o).run Tryz.prog w = .ok (.value v) w := by
  unfold execOp
  simp only [ho, hx, Sem.run_pure]
theorem cmp_run {b : BinOp} {t : TypeId} {x y : Operand} {o : Oper} {t2 : TypeId} {a : Act} {w : World} {u v : Value} {r : Bool} (ho : o.op = .binOp b t x y t2) (hx : a.eval x = u) (hy : a.eval y = v) (hg : (eqGuard b t x y u v).run Tryz.prog w = .ok () w) (h : (binOp b t u v).run Tryz.prog w = .ok (.bool r) w) : (execOp a.eval o).run Tryz.prog w = .ok (.value (.bool r)) w := by
  unfold execOp
  simp only [ho, hx, hy, Sem.run_bind, hg, h, Result.andThen_ok]
  rfl
set_option maxRecDepth 100000 in
set_option maxHeartbeats 400000 in
theorem hd_pick_none (b1 o1 c1 b2 o2 c2 : Nat) (w : World) (xs ys : List Int) (h1 : RdI .u8 w (some ⟨b1, o1, none⟩) 512 xs) (hX : ∀ z ∈ xs, 0 ≤ z ∧ z < 256) (n1 : NoFr xs) (hc1 : 512 ≤ c1) (h2 : RdI .u8 w (some ⟨b2, o2, none⟩) 512 ys) (hY : ∀ z ∈ ys, 0 ≤ z ∧ z < 256) (n2 : NoFr ys) (hc2 : 512 ≤ c2) :
    Calls Tryz.prog 49 #[.slice (some ⟨b1, o1, none⟩) 512 c1, .slice (some ⟨b2, o2, none⟩) 512 c2] w fun e w' => e = .returned (.tuple #[.agg (hdC zHd).toArray, .int .i64 (-1)]) ∧ Below w.heap.size w w' := by
  have G1 := Lib.hid (fun W (hb : Below w.heap.size w W) => hd_get_bad xs b1 o1 c1 W (h1.below hb) hX hc1 n1)
  have G2 := Lib.hid (fun W (hb : Below w.heap.size w W) => hd_get_bad ys b2 o2 c2 W (h2.below hb) hY hc2 n2)
  clear hY n2 h1 hX n1 hc1 h2 hc2
  go_enter Tryz.func49, Tryz.ntmps49
  go_upto_region 4 with (first
    | (go_at_call 90; (with_reducible show Calls _ _ #[.slice (some ⟨b1, o1, none⟩) 512 c1] _ _); refine (G1.out _ L1.out).mono ?_; rintro e w2 ⟨rfl, hb⟩; have L2 := Lib.hid (below_chain L1.out hb); have K2 := Lib.hid (K1.out.below hb K1.out.lt); clear hb)
    | (go_at_call 90; (with_reducible show Calls _ _ #[.slice (some ⟨b2, o2, none⟩) 512 c2] _ _); refine (G2.out _ L4.out).mono ?_; rintro e w5 ⟨rfl, hb⟩; have L5 := Lib.hid (below_chain L4.out hb); have K5 := Lib.hid (K4.out.below hb K4.out.lt); have X5 := Lib.hid (X4.out.below hb X4.out.lt); clear hb)
    | (refine wpl_over rfl 25 (.tmp 10) (.tmp 21) (by rfl) w7.heap.size (hdC zHd) (by rfl) (by rfl) _ cs8 Z8.out (hdC_info zHd) (by rw [D8.out]; rfl) (hdC_one zHd) ?_; intro w9 hb hg hz; have Z9 := Lib.hid hb; have T9 := Lib.hid (show Below w7.heap.size w7 w9 from (bl_n (Below.refl _ w7) G8.out).grown hg (bl_n (Below.refl _ w7) G8.out).size (fun k hk => by injection hk with hk; omega)); clear hb hg hz)
    | (refine wpl_over rfl 25 (.tmp 8) (.tmp 19) (by rfl) w5.heap.size (hdC zHd) (by rfl) (by rfl) _ cs6 Y6.out (hdC_info zHd) (by rw [D6.out]; rfl) (hdC_one zHd) ?_; intro w7 hb hg hz; have Y7 := Lib.hid hb; have T7 := Lib.hid (show Below w5.heap.size w5 w7 from (bl_n (Below.refl _ w5) G6.out).grown hg (bl_n (Below.refl _ w5) G6.out).size (fun k hk => by injection hk with hk; omega)); have L7 := Lib.hid (below_chain L5.out T7.out); have K7 := Lib.hid (K5.out.below T7.out K5.out.lt); have X7 := Lib.hid (X5.out.below T7.out X5.out.lt); clear hb hg hz)
    | (refine wpl_over rfl 25 (.tmp 6) (.tmp 14) (by rfl) w2.heap.size (hdC zHd) (by rfl) (by rfl) _ cs3 X3.out (hdC_info zHd) (by rw [D3.out]; rfl) (hdC_one zHd) ?_; intro w4 hb hg hz; have X4 := Lib.hid hb; have T4 := Lib.hid (show Below w2.heap.size w2 w4 from (bl_n (Below.refl _ w2) G3.out).grown hg (bl_n (Below.refl _ w2) G3.out).size (fun k hk => by injection hk with hk; omega)); have L4 := Lib.hid (below_chain L2.out T4.out); have K4 := Lib.hid (K2.out.below T4.out K2.out.lt); clear hb hg hz)
    | (refine wpl_alloc rfl 25 (by rfl) Tryz.zeroValue25 9 (by rfl) ?_; intro w8 cs8 hk hc hg hz; have Z8 := Lib.hid (show Blk w8 w7.heap.size 25 cs8 from hk); have D8 := Lib.hid hc; have G8 := Lib.hid hg; clear hk hc hg hz; simp only [Act.put, List.setIfInBounds_toArray, List.set_cons_zero, List.set_cons_succ])
    | (refine wpl_alloc rfl 25 (by rfl) Tryz.zeroValue25 9 (by rfl) ?_; intro w6 cs6 hk hc hg hz; have Y6 := Lib.hid (show Blk w6 w5.heap.size 25 cs6 from hk); have D6 := Lib.hid hc; have G6 := Lib.hid hg; clear hk hc hg hz; simp only [Act.put, List.setIfInBounds_toArray, List.set_cons_zero, List.set_cons_succ])
    | (refine wpl_alloc rfl 25 (by rfl) Tryz.zeroValue25 9 (by rfl) ?_; intro w3 cs3 hk hc hg hz; have X3 := Lib.hid (show Blk w3 w2.heap.size 25 cs3 from hk); have D3 := Lib.hid hc; have G3 := Lib.hid hg; clear hk hc hg hz; simp only [Act.put, List.setIfInBounds_toArray, List.set_cons_zero, List.set_cons_succ])
    | (refine wpl_alloc rfl 25 (by rfl) Tryz.zeroValue25 9 (by rfl) ?_; intro w1 cs1 hk hc hg hz; have K1 := Lib.hid hk; have C1 := Lib.hid hc; have L1 := Lib.hid (bl_n (Below.refl _ _) hg); clear hk hc hg hz; simp only [Act.put, List.setIfInBounds_toArray, List.set_cons_zero, List.set_cons_succ]))
  have L9 := Lib.hid (below_chain L7.out T9.out)
  have K9 := Lib.hid (K7.out.below T9.out K7.out.lt)
  have RX := Lib.hid (show w9.rangeAt w2.heap.size 0 (hdC zHd) by have := (X7.out.below T9.out X7.out.lt).range; rwa [List.toList_toArray] at this)
  have RY := Lib.hid (show w9.rangeAt w5.heap.size 0 (hdC zHd) by have := (Y7.out.below T9.out Y7.out.lt).range; rwa [List.toList_toArray] at this)
  have RZ := Lib.hid (show w9.rangeAt w7.heap.size 0 (hdC zHd) by have := Z9.out.range; rwa [List.toList_toArray] at this)
  clear X3 X4 X5 X7 Y6 Y7 Z8 Z9 T4 T7 T9 K1 K2 K4 K5 K7 L1 L2 L4 L5 L7 G3 G6 G8 D3 D6 D8 G1 G2
  generalize w2.heap.size = xb at *
  generalize w5.heap.size = yb at *
  generalize w7.heap.size = zb at *
  go_step
  refine wpList_load_mid rfl 25 (.tmp 8) (by rfl) yb 0 (by rfl) (hdC zHd) _ RY.out Tryz.underlying25 rfl (hdC_info zHd) ?_; simp only [Act.put, List.setIfInBounds_toArray, List.set_cons_zero, List.set_cons_succ]
  refine wpList_load_mid rfl 25 (.tmp 10) (by rfl) zb 0 (by rfl) (hdC zHd) _ RZ.out Tryz.underlying25 rfl (hdC_info zHd) ?_; simp only [Act.put, List.setIfInBounds_toArray, List.set_cons_zero, List.set_cons_succ]
  refine wpl_valP (by rfl) (v := .bool false) (cmp_run (u := .agg (hdC zHd).toArray) (v := .agg (hdC zHd).toArray) (b := .neq) (t := 25) (x := .tmp 23) (y := .tmp 24) (by with_reducible rfl) (by rfl) (by rfl) (by kernel_rfl) (zHd_neq _)) ?_; simp only [Act.put, List.setIfInBounds_toArray, List.set_cons_zero, List.set_cons_succ]
  with_reducible refine wpl_valP (v := .bool false) (by kernel_rfl) (move_run (x := .tmp 25) (by with_reducible rfl) (by kernel_rfl)) ?_; simp only [Act.put, List.setIfInBounds_toArray, List.set_cons_zero, List.set_cons_succ]
  with_reducible refine wpl_skipP (by kernel_rfl) ?_; simp only [Act.put, List.setIfInBounds_toArray, List.set_cons_zero, List.set_cons_succ]
  with_reducible refine wpl_skipP (by kernel_rfl) ?_; simp only [Act.put, List.setIfInBounds_toArray, List.set_cons_zero, List.set_cons_succ]
  with_reducible refine wpl_valP (v := .bool false) (by kernel_rfl) (pick_run (x := .tmp 26) (y := .tmp 28) (z := .const (.bool false)) (by with_reducible rfl) (by kernel_rfl) (by kernel_rfl)) ?_; simp only [Act.put, List.setIfInBounds_toArray, List.set_cons_zero, List.set_cons_succ]
  with_reducible refine wpl_valP (v := .bool false) (by kernel_rfl) (move_run (x := .tmp 29) (by with_reducible rfl) (by kernel_rfl)) ?_; simp only [Act.put, List.setIfInBounds_toArray, List.set_cons_zero, List.set_cons_succ]
  with_reducible refine wpl_skipP (by kernel_rfl) ?_; simp only [Act.put, List.setIfInBounds_toArray, List.set_cons_zero, List.set_cons_succ]
  with_reducible refine wpl_skipP (by kernel_rfl) ?_; simp only [Act.put, List.setIfInBounds_toArray, List.set_cons_zero, List.set_cons_succ]
  with_reducible refine wpl_skipP (by kernel_rfl) ?_; simp only [Act.put, List.setIfInBounds_toArray, List.set_cons_zero, List.set_cons_succ]
  with_reducible refine wpl_skipP (by kernel_rfl) ?_; simp only [Act.put, List.setIfInBounds_toArray, List.set_cons_zero, List.set_cons_succ]
  with_reducible refine wpl_skipP (by kernel_rfl) ?_; simp only [Act.put, List.setIfInBounds_toArray, List.set_cons_zero, List.set_cons_succ]
  with_reducible refine wpl_skipP (by kernel_rfl) ?_; simp only [Act.put, List.setIfInBounds_toArray, List.set_cons_zero, List.set_cons_succ]
  with_reducible refine wpl_skipP (by kernel_rfl) ?_; simp only [Act.put, List.setIfInBounds_toArray, List.set_cons_zero, List.set_cons_succ]
  with_reducible refine wpl_skipP (by kernel_rfl) ?_; simp only [Act.put, List.setIfInBounds_toArray, List.set_cons_zero, List.set_cons_succ]
  with_reducible refine wpl_skipP (by kernel_rfl) ?_; simp only [Act.put, List.setIfInBounds_toArray, List.set_cons_zero, List.set_cons_succ]
  with_reducible refine wpl_skipP (by kernel_rfl) ?_; simp only [Act.put, List.setIfInBounds_toArray, List.set_cons_zero, List.set_cons_succ]
  with_reducible refine wpl_valP (v := .bool false) (by kernel_rfl) (pick_run (x := .tmp 30) (y := .tmp 40) (z := .const (.bool false)) (by with_reducible rfl) (by kernel_rfl) (by kernel_rfl)) ?_; simp only [Act.put, List.setIfInBounds_toArray, List.set_cons_zero, List.set_cons_succ]
  go_wp2_with (first
    | (refine wpl_over rfl 25 (.tmp 4) (.tmp 47) (by rfl) w.heap.size (hdC zHd) (by rfl) (by rfl) _ cs1 K9.out (hdC_info zHd) (by rw [C1.out]; rfl) (hdC_one zHd) ?_; intro w10 hb hg hz; have K10 := Lib.hid hb; have T10 := Lib.hid hg; clear hb hg hz; simp only [Act.put, List.setIfInBounds_toArray, List.set_cons_zero, List.set_cons_succ])
    | (refine wpList_load_mid rfl 25 (.tmp 10) (by rfl) zb 0 (by rfl) (hdC zHd) _ RZ.out Tryz.underlying25 rfl (hdC_info zHd) ?_; simp only [Act.put, List.setIfInBounds_toArray, List.set_cons_zero, List.set_cons_succ]))
  have L10 := Lib.hid (show Below w.heap.size w w10 from L9.out.grown T10.out L9.out.size (fun k hk => by injection hk with hk; omega))
  (try simp only [Exit.inBlock, Exit.then])
  refine bodyPost_ret (results_blk_tmp rfl _ w.heap.size rfl _ _ K10.out _ Tryz.underlying25 rfl 9 (hdC_info zHd) rfl) rfl ?_
  exact ⟨rfl, L10.out⟩
end
end Go.Proofs.YtpadifphnbdbpaaGreat
namespace Go.Proofs.YtpadifphnbdbpaaGreat
open Go.RowKit Go.Maps
set_option linter.unusedVariables false
set_option linter.unusedSimpArgs false
theorem smHd_ok : HdOk smHd := by unfold HdOk RightP pagesI smHd; decide
theorem pick_runT {x y z : Operand} {o : Oper} {a : Act} {w : World} {v : Value} (ho : o.op = .pick x y z) (hx : a.eval x = .bool true) (hy : a.eval y = v) : (execOp a.eval o).run Tryz.prog w = .ok (.value v) w := by
  unfold execOp
  simp only [ho, hx, hy, Sem.run_bind, Sem.run_pure, Result.andThen_ok]
  rfl
theorem load_runP {x : Operand} {o : Oper} {a : Act} {w : World} (ty : TypeId) (ho : o.op = .load ty x) (b : Nat) (hx : a.eval x = .pointer (some ⟨b, 0, none⟩)) (cs : List Value) (d : TypeDesc) (hc : w.rangeAt b 0 cs) (hu : Tryz.prog.underlying ty = some d) (hd : d.isRow = true) (hi : (Tryz.prog.info? ty).map (·.size) = some cs.length) :
    (execOp a.eval o).run Tryz.prog w = .ok (.value (.agg cs.toArray)) w := by
  unfold execOp
  simp only [ho, hx, Instr.loadAt, Instr.sureAddr, Sem.run_bind, Sem.run_pure, Result.andThen_ok, run_loadVar_mid w b 0 ty cs d hc hu hd hi]
theorem load_head {x : Operand} {o : Oper} {a : Act} {w : World} (h : Hd) (b : Nat) (hc : w.rangeAt b 0 (hdC h)) (ho : o.op = .load 25 x) (hx : a.eval x = .pointer (some ⟨b, 0, none⟩)) : (execOp a.eval o).run Tryz.prog w = .ok (.value (.agg (hdC h).toArray)) w :=
  load_runP 25 ho b hx (hdC h) _ hc Tryz.underlying25 rfl (hdC_info h)
theorem err_eql (w : World) : (binOp BinOp.eql 35 (.int .i64 0) (.int .i64 0)).run Tryz.prog w = .ok (.bool true) w := by kernel_rfl
section
set_option maxRecDepth 100000 in
set_option maxHeartbeats 400000 in
theorem hd_pick_two (b1 o1 c1 b2 o2 c2 : Nat) (w : World) (xs : List Int) (h1 : RdI .u8 w (some ⟨b1, o1, none⟩) 512 xs) (hX : ∀ z ∈ xs, 0 ≤ z ∧ z < 256) (n1 : NoFr xs) (hc1 : 512 ≤ c1) (h2 : RdI .u8 w (some ⟨b2, o2, none⟩) 512 (hdRow smHd)) (hc2 : 512 ≤ c2) :
    Calls Tryz.prog 49 #[.slice (some ⟨b1, o1, none⟩) 512 c1, .slice (some ⟨b2, o2, none⟩) 512 c2] w fun e w' => e = .returned (.tuple #[.agg (hdC smHd).toArray, .int .i64 1]) ∧ Below w.heap.size w w' := by
  have G1 := Lib.hid (fun W (hb : Below w.heap.size w W) => hd_get_bad xs b1 o1 c1 W (h1.below hb) hX hc1 n1)
  have G2 := Lib.hid (fun W (hb : Below w.heap.size w W) => hd_get smHd_ok b2 o2 c2 W (h2.below hb) hc2)
  clear h1 hX n1 hc1 h2 hc2
  go_enter Tryz.func49, Tryz.ntmps49
  go_upto_region 4 with (first
    | (go_at_call 90; (with_reducible show Calls _ _ #[.slice (some ⟨b1, o1, none⟩) 512 c1] _ _); refine (G1.out _ L1.out).mono ?_; rintro e w2 ⟨rfl, hb⟩; have L2 := Lib.hid (below_chain L1.out hb); have K2 := Lib.hid (K1.out.below hb K1.out.lt); clear hb)
    | (go_at_call 90; (with_reducible show Calls _ _ #[.slice (some ⟨b2, o2, none⟩) 512 c2] _ _); refine (G2.out _ L4.out).mono ?_; rintro e w5 ⟨rfl, hb⟩; have L5 := Lib.hid (below_chain L4.out hb); have K5 := Lib.hid (K4.out.below hb K4.out.lt); have X5 := Lib.hid (X4.out.below hb X4.out.lt); clear hb)
    | (refine wpl_over rfl 25 (.tmp 10) (.tmp 21) (by rfl) w7.heap.size (hdC zHd) (by rfl) (by rfl) _ cs8 Z8.out (hdC_info zHd) (by rw [D8.out]; rfl) (hdC_one zHd) ?_; intro w9 hb hg hz; have Z9 := Lib.hid hb; have T9 := Lib.hid (show Below w7.heap.size w7 w9 from (bl_n (Below.refl _ w7) G8.out).grown hg (bl_n (Below.refl _ w7) G8.out).size (fun k hk => by injection hk with hk; omega)); clear hb hg hz)
    | (refine wpl_over rfl 25 (.tmp 8) (.tmp 19) (by rfl) w5.heap.size (hdC smHd) (by rfl) (by rfl) _ cs6 Y6.out (hdC_info smHd) (by rw [D6.out]; rfl) (hdC_one smHd) ?_; intro w7 hb hg hz; have Y7 := Lib.hid hb; have T7 := Lib.hid (show Below w5.heap.size w5 w7 from (bl_n (Below.refl _ w5) G6.out).grown hg (bl_n (Below.refl _ w5) G6.out).size (fun k hk => by injection hk with hk; omega)); have L7 := Lib.hid (below_chain L5.out T7.out); have K7 := Lib.hid (K5.out.below T7.out K5.out.lt); have X7 := Lib.hid (X5.out.below T7.out X5.out.lt); clear hb hg hz)
    | (refine wpl_over rfl 25 (.tmp 6) (.tmp 14) (by rfl) w2.heap.size (hdC zHd) (by rfl) (by rfl) _ cs3 X3.out (hdC_info zHd) (by rw [D3.out]; rfl) (hdC_one zHd) ?_; intro w4 hb hg hz; have X4 := Lib.hid hb; have T4 := Lib.hid (show Below w2.heap.size w2 w4 from (bl_n (Below.refl _ w2) G3.out).grown hg (bl_n (Below.refl _ w2) G3.out).size (fun k hk => by injection hk with hk; omega)); have L4 := Lib.hid (below_chain L2.out T4.out); have K4 := Lib.hid (K2.out.below T4.out K2.out.lt); clear hb hg hz)
    | (refine wpl_alloc rfl 25 (by rfl) Tryz.zeroValue25 9 (by rfl) ?_; intro w8 cs8 hk hc hg hz; have Z8 := Lib.hid (show Blk w8 w7.heap.size 25 cs8 from hk); have D8 := Lib.hid hc; have G8 := Lib.hid hg; clear hk hc hg hz; simp only [Act.put, List.setIfInBounds_toArray, List.set_cons_zero, List.set_cons_succ])
    | (refine wpl_alloc rfl 25 (by rfl) Tryz.zeroValue25 9 (by rfl) ?_; intro w6 cs6 hk hc hg hz; have Y6 := Lib.hid (show Blk w6 w5.heap.size 25 cs6 from hk); have D6 := Lib.hid hc; have G6 := Lib.hid hg; clear hk hc hg hz; simp only [Act.put, List.setIfInBounds_toArray, List.set_cons_zero, List.set_cons_succ])
    | (refine wpl_alloc rfl 25 (by rfl) Tryz.zeroValue25 9 (by rfl) ?_; intro w3 cs3 hk hc hg hz; have X3 := Lib.hid (show Blk w3 w2.heap.size 25 cs3 from hk); have D3 := Lib.hid hc; have G3 := Lib.hid hg; clear hk hc hg hz; simp only [Act.put, List.setIfInBounds_toArray, List.set_cons_zero, List.set_cons_succ])
    | (refine wpl_alloc rfl 25 (by rfl) Tryz.zeroValue25 9 (by rfl) ?_; intro w1 cs1 hk hc hg hz; have K1 := Lib.hid hk; have C1 := Lib.hid hc; have L1 := Lib.hid (bl_n (Below.refl _ _) hg); clear hk hc hg hz; simp only [Act.put, List.setIfInBounds_toArray, List.set_cons_zero, List.set_cons_succ]))
  have L9 := Lib.hid (below_chain L7.out T9.out)
  have K9 := Lib.hid (K7.out.below T9.out K7.out.lt)
  have RX := Lib.hid (show w9.rangeAt w2.heap.size 0 (hdC zHd) by have := (X7.out.below T9.out X7.out.lt).range; rwa [List.toList_toArray] at this)
  have RY := Lib.hid (show w9.rangeAt w5.heap.size 0 (hdC smHd) by have := (Y7.out.below T9.out Y7.out.lt).range; rwa [List.toList_toArray] at this)
  have RZ := Lib.hid (show w9.rangeAt w7.heap.size 0 (hdC zHd) by have := Z9.out.range; rwa [List.toList_toArray] at this)
  clear X3 X4 X5 X7 Y6 Y7 Z8 Z9 T4 T7 T9 K1 K2 K4 K5 K7 L1 L2 L4 L5 L7 G3 G6 G8 D3 D6 D8 G1 G2
  generalize w2.heap.size = xb at *
  generalize w5.heap.size = yb at *
  generalize w7.heap.size = zb at *
  go_step
  refine wpList_load_mid rfl 25 (.tmp 8) (by rfl) yb 0 (by rfl) (hdC smHd) _ RY.out Tryz.underlying25 rfl (hdC_info smHd) ?_; simp only [Act.put, List.setIfInBounds_toArray, List.set_cons_zero, List.set_cons_succ]
  refine wpList_load_mid rfl 25 (.tmp 10) (by rfl) zb 0 (by rfl) (hdC zHd) _ RZ.out Tryz.underlying25 rfl (hdC_info zHd) ?_; simp only [Act.put, List.setIfInBounds_toArray, List.set_cons_zero, List.set_cons_succ]
  refine wpl_valP (by rfl) (v := .bool true) (cmp_run (u := .agg (hdC smHd).toArray) (v := .agg (hdC zHd).toArray) (b := .neq) (t := 25) (x := .tmp 23) (y := .tmp 24) (by with_reducible rfl) (by rfl) (by rfl) (by kernel_rfl) (smHd_neq _)) ?_; simp only [Act.put, List.setIfInBounds_toArray, List.set_cons_zero, List.set_cons_succ]
  with_reducible refine wpl_valP (v := .bool true) (by kernel_rfl) (move_run (x := .tmp 25) (by with_reducible rfl) (by kernel_rfl)) ?_; simp only [Act.put, List.setIfInBounds_toArray, List.set_cons_zero, List.set_cons_succ]
  with_reducible refine wpl_valP (v := .int .i64 0) (by kernel_rfl) (move_run (x := .tmp 9) (by with_reducible rfl) (by kernel_rfl)) ?_; simp only [Act.put, List.setIfInBounds_toArray, List.set_cons_zero, List.set_cons_succ]
  with_reducible refine wpl_valP (v := .bool true) (by kernel_rfl) (cmp_run (u := .int .i64 0) (v := .int .i64 0) (b := .eql) (t := 35) (x := .tmp 27) (y := .const (.int .i64 0)) (by with_reducible rfl) (by kernel_rfl) (by kernel_rfl) (by kernel_rfl) (err_eql _)) ?_; simp only [Act.put, List.setIfInBounds_toArray, List.set_cons_zero, List.set_cons_succ]
  with_reducible refine wpl_valP (v := .bool true) (by kernel_rfl) (pick_runT (x := .tmp 26) (y := .tmp 28) (z := .const (.bool false)) (by with_reducible rfl) (by kernel_rfl) (by kernel_rfl)) ?_; simp only [Act.put, List.setIfInBounds_toArray, List.set_cons_zero, List.set_cons_succ]
  with_reducible refine wpl_valP (v := .bool true) (by kernel_rfl) (move_run (x := .tmp 29) (by with_reducible rfl) (by kernel_rfl)) ?_; simp only [Act.put, List.setIfInBounds_toArray, List.set_cons_zero, List.set_cons_succ]
  with_reducible refine wpl_valP (v := .agg (hdC zHd).toArray) (by kernel_rfl) (load_head zHd (x := .tmp 6) xb RX.out (by with_reducible rfl) (by kernel_rfl)) ?_; simp only [Act.put, List.setIfInBounds_toArray, List.set_cons_zero, List.set_cons_succ]
  with_reducible refine wpl_valP (v := .agg (hdC zHd).toArray) (by kernel_rfl) (load_head zHd (x := .tmp 10) zb RZ.out (by with_reducible rfl) (by kernel_rfl)) ?_; simp only [Act.put, List.setIfInBounds_toArray, List.set_cons_zero, List.set_cons_succ]
  with_reducible refine wpl_valP (v := .bool true) (by kernel_rfl) (cmp_run (u := .agg (hdC zHd).toArray) (v := .agg (hdC zHd).toArray) (b := .eql) (t := 25) (x := .tmp 31) (y := .tmp 32) (by with_reducible rfl) (by kernel_rfl) (by kernel_rfl) (by kernel_rfl) (zHd_eql _)) ?_; simp only [Act.put, List.setIfInBounds_toArray, List.set_cons_zero, List.set_cons_succ]
  with_reducible refine wpl_valP (v := .bool true) (by kernel_rfl) (move_run (x := .tmp 33) (by with_reducible rfl) (by kernel_rfl)) ?_; simp only [Act.put, List.setIfInBounds_toArray, List.set_cons_zero, List.set_cons_succ]
  with_reducible refine wpl_skipP (by kernel_rfl) ?_; simp only [Act.put, List.setIfInBounds_toArray, List.set_cons_zero, List.set_cons_succ]
  with_reducible refine wpl_skipP (by kernel_rfl) ?_; simp only [Act.put, List.setIfInBounds_toArray, List.set_cons_zero, List.set_cons_succ]
  with_reducible refine wpl_skipP (by kernel_rfl) ?_; simp only [Act.put, List.setIfInBounds_toArray, List.set_cons_zero, List.set_cons_succ]
  with_reducible refine wpl_skipP (by kernel_rfl) ?_; simp only [Act.put, List.setIfInBounds_toArray, List.set_cons_zero, List.set_cons_succ]
  with_reducible refine wpl_skipP (by kernel_rfl) ?_; simp only [Act.put, List.setIfInBounds_toArray, List.set_cons_zero, List.set_cons_succ]
  with_reducible refine wpl_valP (v := .bool true) (by kernel_rfl) (pick_runT (x := .tmp 34) (y := .const (.bool true)) (z := .tmp 39) (by with_reducible rfl) (by kernel_rfl) (by kernel_rfl)) ?_; simp only [Act.put, List.setIfInBounds_toArray, List.set_cons_zero, List.set_cons_succ]
  with_reducible refine wpl_valP (v := .bool true) (by kernel_rfl) (pick_runT (x := .tmp 30) (y := .tmp 40) (z := .const (.bool false)) (by with_reducible rfl) (by kernel_rfl) (by kernel_rfl)) ?_; simp only [Act.put, List.setIfInBounds_toArray, List.set_cons_zero, List.set_cons_succ]
  go_wp2_with (first
    | (refine wpl_over rfl 25 (.tmp 4) (.tmp 42) (by rfl) w.heap.size (hdC smHd) (by rfl) (by rfl) _ cs1 K9.out (hdC_info smHd) (by rw [C1.out]; rfl) (hdC_one smHd) ?_; intro w10 hb hg hz; have K10 := Lib.hid hb; have T10 := Lib.hid hg; clear hb hg hz; simp only [Act.put, List.setIfInBounds_toArray, List.set_cons_zero, List.set_cons_succ])
    | (refine wpList_load_mid rfl 25 (.tmp 8) (by rfl) yb 0 (by rfl) (hdC smHd) _ RY.out Tryz.underlying25 rfl (hdC_info smHd) ?_; simp only [Act.put, List.setIfInBounds_toArray, List.set_cons_zero, List.set_cons_succ]))
  have L10 := Lib.hid (show Below w.heap.size w w10 from L9.out.grown T10.out L9.out.size (fun k hk => by injection hk with hk; omega))
  (try simp only [Exit.inBlock, Exit.then])
  refine bodyPost_ret (results_blk_tmp rfl _ w.heap.size rfl _ _ K10.out _ Tryz.underlying25 rfl 9 (hdC_info smHd) rfl) rfl ?_
  exact ⟨rfl, L10.out⟩
end
end Go.Proofs.YtpadifphnbdbpaaGreat
