/-
  what this claim needs of: PnP5, PnP6 (written by cut.py).
-/
import Derived.Test.YtpadifphnbdbpaaGreatPPnP1
namespace Go.Proofs.YtpadifphnbdbpaaGreat
open Go.RowKit Go.Maps Go.Sort Go.Shelf
set_option linter.unusedVariables false
set_option linter.unusedSimpArgs false
set_option maxRecDepth 100000 in
theorem pt_items {w : World} {tr lf : Nat} (h : TrIs w tr lf) (Y : Hd) : Calls Tryz.prog 24 #[.pointer (some ⟨tr, 0, none⟩), .agg (hdC Y).toArray] w fun e w' => e = .returned (.tuple #[.slice none 0 0, .int .i64 0]) ∧ Below w.heap.size w w' := by
  have H := Lib.hid h
  clear h
  go_enter Tryz.func24, Tryz.ntmps24
  go_wp2_with (first
    | (refine wpl_box rfl 25 (.tmp 1) rfl _ rfl ?_; intro w1 hk hg hz; have L1 := Lib.hid (bl_n (Below.refl _ w) hg); have H1 := Lib.hid (H.out.below L1.out); clear hk hg hz)
    | (go_at_call 53; refine (wk_all H1.out).mono ?_; rintro e w2 ⟨rfl, hl⟩; have L2 := Lib.hid (below_chain L1.out hl); clear hl))
  go_loopg [6, 14] 0 (fun (k : Nat) rv iv wk => iv = .int .i64 0 ∧ rv = .slice none 0 0 ∧ wk = w2)
  · exact ⟨rfl, rfl, rfl⟩
  · obtain ⟨rfl, rfl, rfl⟩ := hrel
    go_wp2_with fail
    go_ret2
    exact ⟨rfl, L2.out⟩
theorem it_eql (w : World) : (binOp BinOp.eql 46 (.slice none 0 0) (.slice none 0 0)).run Tryz.prog w = .ok (.bool true) w := by kernel_rfl
set_option maxRecDepth 100000 in
theorem it_clone0 (w : World) : Calls Tryz.prog 56 #[.slice none 0 0] w fun e w' => e = .returned (.slice none 0 0) ∧ w = w' := by
  go_enter Tryz.func56, Tryz.ntmps56
  go_wp2_with (with_reducible refine wpl_valP (v := .bool true) (by kernel_rfl) (cmp_run (u := .slice none 0 0) (v := .slice none 0 0) (b := .eql) (t := 46) (x := .tmp 3) (y := .const (.slice none 0 0)) (by with_reducible rfl) (by kernel_rfl) (by kernel_rfl) (by kernel_rfl) (it_eql _)) ?_; simp only [Act.put, List.setIfInBounds_toArray, List.set_cons_zero, List.set_cons_succ])
  go_ret
  exact ⟨rfl, rfl⟩
set_option maxRecDepth 100000 in
theorem ins_nil (f : Value) (w : World) : Calls Tryz.prog 136 #[.slice none 0 0, .int .i64 0, .int .i64 0, f] w fun e w' => e = .returned (.tuple #[]) ∧ w = w' := by
  go_enter Tryz.func136, Tryz.ntmps136
  go_wp2_with fail
  go_loopg [8] 0 (fun (k : Nat) iv wk => iv = .int .i64 1 ∧ wk = w)
  · exact ⟨rfl, rfl⟩
  · obtain ⟨rfl, rfl⟩ := hrel
    go_wp2_with fail
    go_end0
    exact ⟨rfl, rfl⟩
set_option maxRecDepth 100000 in
theorem sst_nil (f : Value) (w : World) : Calls Tryz.prog 57 #[.slice none 0 0, f] w fun e w' => e = .returned (.tuple #[]) ∧ w = w' := by
  have S : Calls Tryz.prog 104 #[.slice none 0 0, .int .i64 0, f] w fun e w' => e = .returned (.tuple #[]) ∧ w = w' := by
    go_enter Tryz.func104, Tryz.ntmps104
    go_wp2_with fail
    go_loopg [7, 8] 0 (fun (k : Nat) iv jv wk => iv = .int .i64 0 ∧ jv = .int .i64 20 ∧ wk = w)
    · exact ⟨rfl, rfl, rfl⟩
    · obtain ⟨rfl, rfl, rfl⟩ := hrel
      go_wp2_with (go_at_call 136; refine (ins_nil _ _).mono ?_; rintro e w1 ⟨rfl, rfl⟩)
      go_loopg [6] 0 (fun (k : Nat) iv wk => iv = .int .i64 20 ∧ wk = wr)
      · exact ⟨rfl, rfl⟩
      · obtain ⟨rfl, rfl⟩ := hrel
        go_wp2_with fail
        go_end0
        exact ⟨rfl, rfl⟩
  have HS := Lib.hid S
  clear S
  go_enter Tryz.func57, Tryz.ntmps57
  go_wp2_with (go_at_call 104; refine HS.out.mono ?_; rintro e w1 ⟨rfl, rfl⟩)
  go_end0
  exact ⟨rfl, rfl⟩
theorem info_st1 : (Tryz.prog.info? 33).map (·.size) = some 1 := by kernel_rfl
theorem wpl_boxS {P : Program} {w : World} {ops : Array Oper} {rest : List Oper} {o : Oper} {a : Act} {Q : Exit → Act → World → Prop} (hg : o.guard = none) (t : TypeId) (x : Operand) (hop : o.op = .box t x) (v : Value) (hx : a.eval x = v) (hc : v.cells = #[v])
    (hK : ∀ w1, Blk w1 w.heap.size t #[v] → w.grownBy w1 none → w1.heap.size = w.heap.size + 1 → wpList P ops Q rest (a.put o.dst (.pointer (some ⟨w.heap.size, 0, none⟩))) w1) : wpList P ops Q (o :: rest) a w := by
  refine wpList_plain hg fun K' hK' => ?_
  unfold Oper.wp execOp
  simp only [hop, Sem.run_bind, Instr.box, newVar, newRow, run_newObj_alloc, Sem.run_pure, Result.andThen_ok, hx, hc]
  exact hK' _ _ (hK _ (Blk.made _ _ _) (World.grownBy_alloc w _ none) (by simp))
theorem end_nil {w : World} {ab sb ub : Nat} (hA : Blk w ab 3 #[.int .i64 0]) : Calls Tryz.prog 59 #[.pointer (some ⟨ab, 0, none⟩), .pointer (some ⟨sb, 0, none⟩), .pointer (some ⟨ub, 0, none⟩)] w fun e w' => e = .returned (.tuple #[]) ∧ w = w' := by
  have c0 : w.cell? ⟨ab, 0, none⟩ = some (.int .i64 0) := hA.cell rfl
  clear hA
  go_enter Tryz.func59, Tryz.ntmps59
  go_wp2_with fail
  (try simp only [Exit.inBlock, Exit.then])
  refine bodyPost_ret (results_none rfl _ _ _) rfl ?_
  exact ⟨rfl, rfl⟩
set_option maxRecDepth 100000 in
set_option maxHeartbeats 1000000 in
theorem st_of_nil (n : Nat) (hn : 1 ≤ n ∧ n ≤ 512) (w : World) : Calls Tryz.prog 25 #[.int .i64 (n : Int), .slice none 0 0] w fun e w' => ∃ si xi bx mi bs, e = .returned (.tuple #[.pointer (some ⟨si, 0, none⟩), .int .i64 0]) ∧ StIs w' si xi bx mi bs n [] zF [] ∧ Below w.heap.size w w' ∧ w.heap.size ≤ si ∧ w.heap.size ≤ xi ∧ w.heap.size ≤ bx ∧ w.heap.size ≤ mi ∧ w.heap.size ≤ bs := by
  have HN := Lib.hid hn
  clear hn
  go_enter Tryz.func25, Tryz.ntmps25
  go_wp2_with (first
    | (refine wpl_alloc_zero rfl 33 (by rfl) (z := .pointer none) Tryz.zeroValue33 ?_; intro w3 hk hg hz; have B3 := Lib.hid (show Blk w3 w2.heap.size 33 #[.pointer none] from hk); have X3 := Lib.hid (bl_n (Below.refl _ w2) hg); clear hk hg hz; simp only [Act.put, List.setIfInBounds_toArray, List.set_cons_zero, List.set_cons_succ])
    | (refine wpl_set rfl 33 (.tmp 6) (.tmp 12) (by rfl) w2.heap.size 0 (.pointer (some ⟨si, 0, none⟩)) (by rfl) (by rfl) _ _ B3.out info_st1 (show 0 < 1 by omega) (by rfl) (by rfl) ?_; intro w4 hb hg hz; have B4 := Lib.hid (show Blk w4 w2.heap.size 33 #[.pointer (some ⟨si, 0, none⟩)] from hb); have X4 := Lib.hid (bl_g X3.out hg (Nat.le_refl _)); have L4 := Lib.hid (below_chain L2.out X4.out); have U4 := Lib.hid (U2.out.below X4.out U2.out.lt); have u4 : w4.cell? ⟨w.heap.size, 0, none⟩ = some (.int .i64 (n : Int)) := U4.out.cell rfl; have b4 : w4.cell? ⟨w2.heap.size, 0, none⟩ = some (.pointer (some ⟨si, 0, none⟩)) := B4.out.cell rfl; clear u1 hb hg hz; simp only [Act.put, List.setIfInBounds_toArray, List.set_cons_zero, List.set_cons_succ])
    | (go_at_call 55; refine (makes_nil _ none 0).mono ?_; rintro e w5 ⟨rfl, hl⟩; have L5 := Lib.hid (below_chain L4.out hl); have X5 := Lib.hid (below_chain X4.out hl); have B5 := Lib.hid (B4.out.below hl B4.out.lt); clear u4 b4 hl)
    | (go_at_call 56; refine (it_clone0 _).mono ?_; rintro e w5' ⟨rfl, rfl⟩)
    | (go_at_call 57; refine (sst_nil _ _).mono ?_; rintro e w5'' ⟨rfl, rfl⟩)
    | (refine wpl_alloc_zero rfl 3 (by rfl) (z := .int .i64 0) Tryz.zeroValue3 ?_; intro w6 hk hg hz; have A6 := Lib.hid (show Blk w6 w5.heap.size 3 #[.int .i64 0] from hk); have X6 := Lib.hid (bl_n (Below.refl _ w5) hg); clear hk hg hz; simp only [Act.put, List.setIfInBounds_toArray, List.set_cons_zero, List.set_cons_succ])
    | (refine wpl_set rfl 3 (.tmp 7) (.const (.int .i64 0)) (by rfl) w5.heap.size 0 (.int .i64 0) (by rfl) (by rfl) _ _ A6.out info_i1 (show 0 < 1 by omega) (by rfl) (by rfl) ?_; intro w7 hb hg hz; have A7 := Lib.hid (show Blk w7 w5.heap.size 3 #[.int .i64 0] from hb); have X7 := Lib.hid (bl_g X6.out hg (Nat.le_refl _)); clear hb hg hz; simp only [Act.put, List.setIfInBounds_toArray, List.set_cons_zero, List.set_cons_succ])
    | (go_at_call 9; refine (st_new n HN.out _).mono ?_; rintro e w2 ⟨si, xi, bx, mi, bs, rfl, hs, hb, hge⟩; have GE := Lib.hid hge; have S2 := Lib.hid hs; have L2 := Lib.hid (below_chain L1.out hb); have U2 := Lib.hid (U1.out.below hb U1.out.lt); clear hs hb hge)
    | (refine wpl_boxS rfl 3 (.tmp 0) rfl (.int .i64 (n : Int)) (by rfl) (by rfl) ?_; intro w1 hk hg hz; have U1 := Lib.hid (show Blk w1 w.heap.size 3 #[.int .i64 (n : Int)] from hk); have L1 := Lib.hid (bl_n (Below.refl _ w) hg); have u1 : w1.cell? ⟨w.heap.size, 0, none⟩ = some (.int .i64 (n : Int)) := U1.out.cell rfl; clear hk hg hz; simp only [Act.put, List.setIfInBounds_toArray, List.set_cons_zero, List.set_cons_succ]))
  go_loopg [26] 0 (fun (k : Nat) iv wk => iv = .int .i64 0 ∧ wk = w7)
  · exact ⟨rfl, rfl⟩
  · obtain ⟨rfl, rfl⟩ := hrel
    have B7 := Lib.hid (B5.out.below X7.out B5.out.lt)
    have b7 := B7.out.cell (i := 0) rfl
    go_wp2_with (go_at_call 59; refine (end_nil A7.out).mono ?_; rintro e w8 ⟨rfl, rfl⟩)
    go_ret2
    exact ⟨si, xi, bx, mi, bs, rfl, S2.out.below (below_chain X5.out X7.out), below_chain L5.out X7.out, by have := GE.out; have := L1.out.size; omega⟩
end Go.Proofs.YtpadifphnbdbpaaGreat
namespace Go.Proofs.YtpadifphnbdbpaaGreat
open Go.RowKit Go.Maps Go.Sort Go.Shelf
set_option linter.unusedVariables false
set_option linter.unusedSimpArgs false
set_option maxRecDepth 100000 in
theorem pt_load_nil (w : World) : Calls Tryz.prog 10 #[.pointer none] w fun e w' => e = .returned (.tuple #[.agg (hdC zHd).toArray, .pointer none, .int .i64 1]) ∧ Below w.heap.size w w' := by
  go_enter Tryz.func10, Tryz.ntmps10
  go_wp2_with (first
    | (refine wpl_alloc rfl 25 (by rfl) Tryz.zeroValue25 9 (by rfl) ?_; intro w1 cs1 hk hc hg hz; have K1 := Lib.hid hk; have C1 := Lib.hid hc; have L1 := Lib.hid (bl_n (Below.refl _ _) hg); clear hk hc hg hz; simp only [Act.put, List.setIfInBounds_toArray, List.set_cons_zero, List.set_cons_succ])
    | (refine wpl_over rfl 25 (.tmp 2) (.tmp 18) (by rfl) w.heap.size (hdC zHd) (by rfl) (by rfl) _ cs1 K1.out (hdC_info zHd) (by rw [C1.out]; rfl) (hdC_one zHd) ?_; intro w2 hb hg hz; have K2 := Lib.hid hb; have L2 := Lib.hid (bl_g L1.out hg (Nat.le_refl _)); clear hb hg hz; simp only [Act.put, List.setIfInBounds_toArray, List.set_cons_zero, List.set_cons_succ]))
  (try simp only [Exit.inBlock, Exit.then])
  refine bodyPost_ret (results_blk_tmp2 rfl _ w.heap.size rfl _ _ K2.out _ Tryz.underlying25 rfl 9 (hdC_info zHd) rfl) rfl ?_
  exact ⟨rfl, L2.out⟩
set_option maxRecDepth 100000 in
set_option maxHeartbeats 1000000 in
theorem pt_load_none {w : World} {c kb d sb ob n : Nat} {L : Int → Sec} {N : Nat} (h : CcI w c kb d sb ob n L N) (hn : 2 ≤ n) (hN : N ≤ 800000) (h0 : NoFr (L 0).1) (h1 : NoFr (L 1).1) :
    Calls Tryz.prog 10 #[.pointer (some ⟨c, 0, none⟩)] w fun e w' => e = .returned (.tuple #[.agg (hdC zHd).toArray, .pointer none, .int .i64 10]) ∧ CcI w' c kb d sb ob n L (N + 2) ∧ Tch [c, kb, sb, ob] w w' := by
  have H := Lib.hid h
  have HN := Lib.hid (And.intro hn hN)
  have P := Lib.hid (pick_none h0 h1)
  have hn0 : ¬ (n : Int) = 0 := by omega
  clear h hn hN h0 h1
  go_enter Tryz.func10, Tryz.ntmps10
  go_wp2_with (first
    | (go_at_call 20; refine (ci_sectors HC1.out).mono ?_; rintro e w1' ⟨rfl, rfl⟩)
    | (go_at_call 21; refine (pt_heads HC1.out HN.out.1 HN.out.2 zHd (-1) 10 P.out (.inl ⟨rfl, rfl, rfl⟩)).mono ?_; rintro e w2 ⟨rfl, hC, hT⟩; have C2 := Lib.hid hC; have T2 := Lib.hid ((Tch.below L1.out).trans hT); have K2 := Lib.hid (K1.out.cc HC1.out hT (by decide)); clear hC hT)
    | (refine wpl_over rfl 25 (.tmp 5) (.tmp 22) (by rfl) w2.heap.size (hdC zHd) (by rfl) (by rfl) _ cs3 B3.out (hdC_info zHd) (by rw [Z3.out]; rfl) (hdC_one zHd) ?_; intro w4 hb hg hz; have X4 := Lib.hid (bl_g X3.out hg (Nat.le_refl _)); clear hb hg hz; simp only [Act.put, List.setIfInBounds_toArray, List.set_cons_zero, List.set_cons_succ])
    | (refine wpl_over rfl 25 (.tmp 2) (.tmp 26) (by rfl) w.heap.size (hdC zHd) (by rfl) (by rfl) _ cs1 (K2.out.below X4.out K2.out.lt) (hdC_info zHd) (by rw [C1.out]; rfl) (hdC_one zHd) ?_; intro w5 hb hg hz; have K5 := Lib.hid hb; have G5 := Lib.hid hg; clear hb hg hz; simp only [Act.put, List.setIfInBounds_toArray, List.set_cons_zero, List.set_cons_succ])
    | (refine wpl_alloc rfl 25 (by rfl) Tryz.zeroValue25 9 (by rfl) ?_; intro w3 cs3 hk hc hg hz; have B3 := Lib.hid (show Blk w3 w2.heap.size 25 cs3 from hk); have Z3 := Lib.hid hc; have X3 := Lib.hid (bl_n (Below.refl _ w2) hg); clear hk hc hg hz; simp only [Act.put, List.setIfInBounds_toArray, List.set_cons_zero, List.set_cons_succ])
    | (refine wpl_alloc rfl 25 (by rfl) Tryz.zeroValue25 9 (by rfl) ?_; intro w1 cs1 hk hc hg hz; have K1 := Lib.hid hk; have C1 := Lib.hid hc; have L1 := Lib.hid (bl_n (Below.refl _ _) hg); have HC1 := Lib.hid (H.out.below L1.out); clear hk hc hg hz; simp only [Act.put, List.setIfInBounds_toArray, List.set_cons_zero, List.set_cons_succ]))
  have hlt := H.out.lts
  have K4 := K2.out.below X4.out K2.out.lt
  have C5 := cc_over (C2.out.below X4.out) K4 (by decide) G5.out (by omega)
  (try simp only [Exit.inBlock, Exit.then])
  refine bodyPost_ret (results_blk_tmp2 rfl _ w.heap.size rfl _ _ K5.out _ Tryz.underlying25 rfl 9 (hdC_info zHd) rfl) rfl ?_
  exact ⟨rfl, C5, (T2.out.trans (Tch.below X4.out)).fresh (tch_g G5.out) (fun i hi => by simp at hi; subst hi; exact .inr (Nat.le_refl _))⟩
theorem nd_post_out {w W : World} {c kb d sb ob n N : Nat} {L : Int → Sec} {v : Value} (h : NdPost w c kb d sb ob n L N v W) : ∃ b o p, v = .slice (some ⟨b, o, none⟩) 1 p ∧ Hid (W.rangeAt b o ndE.toList) ∧ Hid (b < W.heap.size) ∧ Hid (CcI W c kb d sb ob n L (N + 2)) ∧ Hid (Tch [c, kb, sb, ob] w W) := by
  obtain ⟨b, o, p, e, h1, h2, h3, h4⟩ := h
  exact ⟨b, o, p, e, Lib.hid h1, Lib.hid h2, Lib.hid h3, Lib.hid h4⟩
set_option maxRecDepth 100000 in
set_option maxHeartbeats 1000000 in
theorem pt_load_two {w : World} {c kb d sb ob n : Nat} {L : Int → Sec} {N : Nat} (h : CcI w c kb d sb ob n L N) (hn : 362 ≤ n) (hN : N ≤ 700000) (h0 : NoFr (L 0).1) (h1 : (L 1).1 = hdRow smHd) (hP : secsL (secsAt L 126 2) = bV ndRow) :
    Calls Tryz.prog 10 #[.pointer (some ⟨c, 0, none⟩)] w fun e w' => ∃ si xi bx mi bs, e = .returned (.tuple #[.agg (hdC smHd).toArray, .pointer (some ⟨si, 0, none⟩), .int .i64 0]) ∧ StIs w' si xi bx mi bs 8 [] zF [] ∧ Tch [c, kb, sb, ob] w w' := by
  have H := Lib.hid h
  have HN := Lib.hid (And.intro hn hN)
  have P := Lib.hid (pick_two h0 h1)
  have HP := Lib.hid hP
  have hn0 : ¬ (n : Int) = 0 := by omega
  clear h hn hN h0 h1 hP
  go_enter Tryz.func10, Tryz.ntmps10
  go_wp2_with (first
    | (go_at_call 20; refine (ci_sectors HC1.out).mono ?_; rintro e w1' ⟨rfl, rfl⟩)
    | (go_at_call 21; refine (pt_heads HC1.out (by have := HN.out; omega) (by have := HN.out; omega) smHd 1 0 P.out (.inr ⟨rfl, rfl, rfl, by have := HN.out; show (362 : Int) ≤ _; omega⟩)).mono ?_; rintro e w2 ⟨rfl, hC, hT⟩; have C2 := Lib.hid hC; have T2 := Lib.hid ((Tch.below L1.out).trans hT); have K2 := Lib.hid (K1.out.cc HC1.out hT (by decide)); clear hC hT)
    | (go_at_call 22; refine (pt_nodes (C2.out.below X4.out) (by have := HN.out; omega) (by have := HN.out; omega) HP.out).mono ?_; rintro e w5 ⟨v5, rfl, hN5⟩; obtain ⟨b5, o5, p5, rfl, R5, Z5, C5, T5⟩ := nd_post_out hN5; have B5 := Lib.hid (B4.out.cc (C2.out.below X4.out) T5.out (by decide)); have K5 := Lib.hid (K4.out.cc (C2.out.below X4.out) T5.out (by decide)); have r5 : w5.cell? ⟨w2.heap.size, 7, none⟩ = some (.int .i64 0) := B5.out.cell rfl; clear hN5)
    | (go_at_call 23; refine (tr_load R5.out Z5.out).mono ?_; rintro e w6 ⟨tr, lf, rfl, ht, _, _, hl⟩; have TR6 := Lib.hid ht; have X6 := Lib.hid hl; have B6 := Lib.hid (B5.out.below hl B5.out.lt); clear ht hl r5)
    | (go_at_call 24; refine (pt_items TR6.out smHd).mono ?_; rintro e w7 ⟨rfl, hl⟩; have X7 := Lib.hid (below_chain X6.out hl); have B7 := Lib.hid (B6.out.below hl B6.out.lt); have v7 : w7.cell? ⟨w2.heap.size, 0, none⟩ = some (.int .i64 64) := B7.out.cell rfl; clear hl)
    | (go_at_call 25; refine (st_of_nil 8 (by omega) _).mono ?_; rintro e w8 ⟨si, xi, bx, mi, bs, rfl, hs, hl, hge⟩; have GE := Lib.hid (show w.heap.size < si ∧ w.heap.size < xi ∧ w.heap.size < bx ∧ w.heap.size < mi ∧ w.heap.size < bs by have h1 := K5.out.lt; have h2 := X7.out.size; omega); clear hge; have S8 := Lib.hid hs; have X8 := Lib.hid (below_chain X7.out hl); have B8 := Lib.hid (B7.out.below hl B7.out.lt); clear hs hl v7)
    | (refine wpl_over rfl 25 (.tmp 5) (.tmp 22) (by rfl) w2.heap.size (hdC smHd) (by rfl) (by rfl) _ cs3 B3.out (hdC_info smHd) (by rw [Z3.out]; rfl) (hdC_one smHd) ?_; intro w4 hb hg hz; have B4 := Lib.hid (show Blk w4 w2.heap.size 25 (hdC smHd).toArray from hb); have X4 := Lib.hid (bl_g X3.out hg (Nat.le_refl _)); have K4 := Lib.hid (K2.out.below X4.out K2.out.lt); clear hb hg hz; simp only [Act.put, List.setIfInBounds_toArray, List.set_cons_zero, List.set_cons_succ])
    | (refine wpl_over rfl 25 (.tmp 2) (.tmp 70) (by rfl) w.heap.size (hdC smHd) (by rfl) (by rfl) _ cs1 (K5.out.below X8.out K5.out.lt) (hdC_info smHd) (by rw [C1.out]; rfl) (hdC_one smHd) ?_; intro w9 hb hg hz; have K9 := Lib.hid hb; have G9 := Lib.hid hg; clear hb hg hz; simp only [Act.put, List.setIfInBounds_toArray, List.set_cons_zero, List.set_cons_succ])
    | (refine wpl_load_blk rfl 25 (.tmp 5) (by rfl) w2.heap.size (by rfl) 25 _ B4.out _ Tryz.underlying25 rfl 9 (hdC_info smHd) rfl ?_; simp only [Act.put, List.setIfInBounds_toArray, List.set_cons_zero, List.set_cons_succ])
    | (refine wpl_load_blk rfl 25 (.tmp 5) (by rfl) w2.heap.size (by rfl) 25 _ B6.out _ Tryz.underlying25 rfl 9 (hdC_info smHd) rfl ?_; simp only [Act.put, List.setIfInBounds_toArray, List.set_cons_zero, List.set_cons_succ])
    | (refine wpl_load_blk rfl 25 (.tmp 5) (by rfl) w2.heap.size (by rfl) 25 _ B8.out _ Tryz.underlying25 rfl 9 (hdC_info smHd) rfl ?_; simp only [Act.put, List.setIfInBounds_toArray, List.set_cons_zero, List.set_cons_succ])
    | (refine wpl_alloc rfl 25 (by rfl) Tryz.zeroValue25 9 (by rfl) ?_; intro w3 cs3 hk hc hg hz; have B3 := Lib.hid (show Blk w3 w2.heap.size 25 cs3 from hk); have Z3 := Lib.hid hc; have X3 := Lib.hid (bl_n (Below.refl _ w2) hg); clear hk hc hg hz; simp only [Act.put, List.setIfInBounds_toArray, List.set_cons_zero, List.set_cons_succ])
    | (refine wpl_alloc rfl 25 (by rfl) Tryz.zeroValue25 9 (by rfl) ?_; intro w1 cs1 hk hc hg hz; have K1 := Lib.hid hk; have C1 := Lib.hid hc; have L1 := Lib.hid (bl_n (Below.refl _ _) hg); have HC1 := Lib.hid (H.out.below L1.out); clear hk hc hg hz; simp only [Act.put, List.setIfInBounds_toArray, List.set_cons_zero, List.set_cons_succ]))
  have ge := GE.out
  have S9 : StIs w9 si xi bx mi bs 8 [] zF [] := S8.out.tch (tch_g G9.out) (by simp; omega) (by simp; omega) (by simp; omega) (by simp; omega) (by simp; omega) (by simp)
  (try simp only [Exit.inBlock, Exit.then])
  refine bodyPost_ret (results_blk_tmp2 rfl _ w.heap.size rfl _ _ K9.out _ Tryz.underlying25 rfl 9 (hdC_info smHd) rfl) rfl ?_
  exact ⟨si, xi, bx, mi, bs, rfl, S9, ((((T2.out.trans (Tch.below X4.out)).trans T5.out).trans (Tch.below X8.out)).fresh (tch_g G9.out) (fun i hi => by simp at hi; subst hi; exact .inr (Nat.le_refl _)))⟩
end Go.Proofs.YtpadifphnbdbpaaGreat
