/-
  what this claim needs of: PnZ2 (written by cut.py).
-/
import Derived.Test.YtpadifphnbdbpaaGreatPPnZ1
namespace Go.Proofs.YtpadifphnbdbpaaGreat
open Go.RowKit Go.Maps Go.Sort Go.Shelf
set_option linter.unusedVariables false
set_option linter.unusedSimpArgs false
theorem secsG_rng (g : Geo) : 0 ≤ secsG g ∧ secsG g ≤ 262144 := by
  unfold secsG
  split
  · rename_i h
    have h1 := h.2
    have h2 := h.1.prod
    have h3 : 1 ≤ g.jou ∧ g.jou ≤ 1024 := by obtain ⟨_, _, _, _, _, h⟩ := h.1; omega
    have hs : secsI g = 2 + 2 * g.jou + 4 * pagesI g + g.segs * g.seg := rfl
    have h4 := pages_ge h
    omega
  · omega
theorem bld_run {o : Oper} {a : Act} {w : World} (t : TypeId) (ho : o.op = .build t #[]) (cs : Array Value) (hf : Tryz.prog.built t [] = some cs) : (execOp a.eval o).run Tryz.prog w = .ok (.value (.agg cs)) w := by
  have hr := run_build (P := Tryz.prog) w t #[] cs hf
  unfold execOp
  simp only [ho, Array.map_empty, Sem.run_bind, hr, Sem.run_pure, Result.andThen_ok]
theorem wpl_boxP {P : Program} {w : World} {ops : Array Oper} {rest : List Oper} {o : Oper} {a : Act} {Q : Exit → Act → World → Prop} (hw : Region.wanted o (yielded ops a.tmps) = true) (t : TypeId) (x : Operand) (hop : o.op = .box t x) (cs : Array Value) (hx : a.eval x = .agg cs)
    (hK : ∀ w1, Blk w1 w.heap.size t cs → w.grownBy w1 none → wpList P ops Q rest (a.put o.dst (.pointer (some ⟨w.heap.size, 0, none⟩))) w1) : wpList P ops Q (o :: rest) a w := by
  refine wpList_step fun K hK' => ?_
  rw [if_pos hw]
  unfold Oper.wp execOp
  simp only [hop, Sem.run_bind, Instr.box, newVar, newRow, run_newObj_alloc, Sem.run_pure, Result.andThen_ok, hx]
  exact hK' _ _ (hK _ (Blk.made _ _ _) (World.grownBy_alloc w _ none))
theorem built_hd0 : Tryz.prog.built 25 [] = some (hdC zHd).toArray := by kernel_rfl
theorem law_n (S2 : Int) (p : Nat) (h : 0 ≤ S2 ∧ S2 ≤ 3000) (hp : p < 3) : ∃ n : Nat, (n : Int) = max 1 (S2 - p) ∧ 1 ≤ n ∧ n ≤ 3000 := ⟨(max 1 (S2 - p)).toNat, by omega, by omega, by omega⟩
theorem save_okY {w : World} {c kb d sb ob n N si xi bx mi bs u : Nat} {L : Int → Sec} (h : CcI w c kb d sb ob n L N) (hs : StIs w si xi bx mi bs u [] zF []) (Y : Hd) (m : Nat) (hY : HdI Y) (hk : SvOk n Y) (hN : N ≤ 700000) (hm : Y.num = (m : Int))
    (ar hf J : Nat) (har : (ar : Int) = 2 + 2 * Y.geo.jou + ((m % 2 : Nat) : Int) * (2 * pagesI Y.geo)) (hhf : (hf : Int) = 2 + ((m % 2 : Nat) : Int) * Y.geo.jou) (hJ : (J : Int) = Y.geo.jou) :
    Calls Tryz.prog 11 #[.pointer (some ⟨c, 0, none⟩), .agg (hdC Y).toArray, .pointer (some ⟨si, 0, none⟩)] w fun e w' => e = .returned (.int .i64 0) ∧ Tch [c, kb, sb, ob] w w' := by
  obtain ⟨g, num, pg, rt, sn⟩ := Y
  simp only at hm
  subst hm
  exact (pt_save_ok h hs g m pg rt sn hY hk hN ar hf J har hhf hJ).mono (by rintro e w' ⟨h1, _, h3⟩; exact ⟨h1, h3⟩)
set_option maxRecDepth 100000 in
set_option maxHeartbeats 2000000 in
theorem none_law (g : Geo) (Y : Hd) (x : Int) (hg : GeB g) (hY : HdI Y) (hx : rI x) (w : World) :
    Calls Tryz.prog 3 #[.agg (geC g).toArray, .agg (hdC Y).toArray, .int .i64 x] w fun e w' => e = .returned (.bool true) ∧ Below w.heap.size w w' := by
  have HG := Lib.hid hg
  have HY := Lib.hid hY
  have HX := Lib.hid hx
  clear hg hY hx
  obtain ⟨S1, hS1⟩ : ∃ S1, secsG g = S1 := ⟨_, rfl⟩
  obtain ⟨S2, hS2⟩ : ∃ S2, secsG Y.geo = S2 := ⟨_, rfl⟩
  have HS1 := Lib.hid hS1
  have HS2 := Lib.hid hS2
  have HR2 := Lib.hid (hS2 ▸ secsG_rng Y.geo)
  clear hS1 hS2
  go_enter Tryz.func3, Tryz.ntmps3
  go_upto_region 3 with (first
    | (refine wpl_box rfl 23 (.tmp 0) rfl _ rfl ?_; intro w1 hk hg hz; have G1 := Lib.hid (show Blk w1 w.heap.size 23 (geC g).toArray from hk); have L1 := Lib.hid (bl_n (Below.refl _ w) hg); clear hk hg hz)
    | (refine wpl_box rfl 25 (.tmp 1) rfl _ rfl ?_; intro w2 hk hg hz; have B2 := Lib.hid (show Blk w2 w1.heap.size 25 (hdC Y).toArray from hk); have L2 := Lib.hid (bl_n L1.out hg); have G2 := Lib.hid (G1.out.grown hg (by simp)); clear hk hg hz)
    | (go_at_call 4; refine (lz_awake _).mono ?_; rintro e w3 ⟨rfl, hl⟩; have L3 := Lib.hid (below_chain L2.out hl); have G3 := Lib.hid (G2.out.below hl G2.out.lt); have B3 := Lib.hid (B2.out.below hl B2.out.lt); clear hl))
  clear L1 L2 G1 G2 B2
  generalize w1.heap.size = hb at *
  have hc : (S1 > 3000) ∨ (¬ S1 > 3000 ∧ S2 > 3000) ∨ (¬ S1 > 3000 ∧ ¬ S2 > 3000) := by omega
  rcases hc with h1 | ⟨h1, h2⟩ | ⟨h1, h2⟩
  · have d1 : decide (S1 > 3000) = true := decide_eq_true h1
    clear h1
    go_wp2_with (first
      | (refine wpl_load_blk rfl 23 (.tmp 3) (by rfl) w.heap.size (by rfl) 23 _ G3.out _ Tryz.underlying23 rfl 5 (geC_info g) rfl ?_; simp only [Act.put, List.setIfInBounds_toArray, List.set_cons_zero, List.set_cons_succ])
      | (go_at_call 5; refine (rsecsG_any HG.out).mono ?_; rewrite [HS1.out]; rintro e w4 ⟨rfl, hl⟩; have L4 := Lib.hid (below_chain L3.out hl); clear hl))
    go_ret
    exact ⟨rfl, L4.out⟩
  · have d1 : decide (S1 > 3000) = false := decide_eq_false h1
    have d2 : decide (S2 > 3000) = true := decide_eq_true h2
    clear h1 h2
    go_wp2_with (first
      | (refine wpl_load_blk rfl 23 (.tmp 3) (by rfl) w.heap.size (by rfl) 23 _ G3.out _ Tryz.underlying23 rfl 5 (geC_info g) rfl ?_; simp only [Act.put, List.setIfInBounds_toArray, List.set_cons_zero, List.set_cons_succ])
      | (with_reducible refine wpl_valP (v := .agg (geC Y.geo).toArray) (by kernel_rfl) (load_ge (x := .tmp 21) hb 0 Y.geo (B4.out.part 0 (geC Y.geo) rfl) (by with_reducible rfl) (by kernel_rfl)) ?_; simp only [Act.put, List.setIfInBounds_toArray, List.set_cons_zero, List.set_cons_succ])
      | (go_at_call 5; (with_reducible show Calls _ _ #[.agg (geC g).toArray] _ _); refine (rsecsG_any HG.out).mono ?_; rewrite [HS1.out]; rintro e w4 ⟨rfl, hl⟩; have L4 := Lib.hid (below_chain L3.out hl); have B4 := Lib.hid (B3.out.below hl B3.out.lt); clear hl)
      | (go_at_call 5; refine (rsecsG_any HY.out.1).mono ?_; rewrite [HS2.out]; rintro e w5 ⟨rfl, hl⟩; have L5 := Lib.hid (below_chain L4.out hl); clear hl))
    go_ret
    exact ⟨rfl, L5.out⟩
  · have d1 : decide (S1 > 3000) = false := decide_eq_false h1
    have d2 : decide (S2 > 3000) = false := decide_eq_false h2
    have H2 := Lib.hid h2
    clear h1 h2
    go_upto_region 5 with (first
      | (refine wpl_load_blk rfl 23 (.tmp 3) (by rfl) w.heap.size (by rfl) 23 _ G3.out _ Tryz.underlying23 rfl 5 (geC_info g) rfl ?_; simp only [Act.put, List.setIfInBounds_toArray, List.set_cons_zero, List.set_cons_succ])
      | (with_reducible refine wpl_valP (v := .agg (geC Y.geo).toArray) (by kernel_rfl) (load_ge (x := .tmp 21) hb 0 Y.geo (B4.out.part 0 (geC Y.geo) rfl) (by with_reducible rfl) (by kernel_rfl)) ?_; simp only [Act.put, List.setIfInBounds_toArray, List.set_cons_zero, List.set_cons_succ])
      | (go_at_call 5; (with_reducible show Calls _ _ #[.agg (geC g).toArray] _ _); refine (rsecsG_any HG.out).mono ?_; rewrite [HS1.out]; rintro e w4 ⟨rfl, hl⟩; have L4 := Lib.hid (below_chain L3.out hl); have B4 := Lib.hid (B3.out.below hl B3.out.lt); clear hl)
      | (go_at_call 5; refine (rsecsG_any HY.out.1).mono ?_; rewrite [HS2.out]; rintro e w5 ⟨rfl, hl⟩; have L5 := Lib.hid (below_chain L4.out hl); have B5 := Lib.hid (B4.out.below hl B4.out.lt); clear hl))
    clear d1 d2
    go_upto_region 6 with (first
      | (with_reducible refine wpl_valP (v := .agg (geC Y.geo).toArray) (by kernel_rfl) (load_ge (x := .tmp 26) hb 0 Y.geo (B5.out.part 0 (geC Y.geo) rfl) (by with_reducible rfl) (by kernel_rfl)) ?_; simp only [Act.put, List.setIfInBounds_toArray, List.set_cons_zero, List.set_cons_succ])
      | (go_at_call 5; refine (rsecsG_any HY.out.1).mono ?_; rewrite [HS2.out]; rintro e w6 ⟨rfl, hl⟩; have L6 := Lib.hid (below_chain L5.out hl); have B6 := Lib.hid (B5.out.below hl B5.out.lt); clear hl)
      | (go_at_call 6; refine (lz_pick x HX.out _).mono ?_; rintro e w6' ⟨⟨p, hp, rfl⟩, rfl⟩; have HPp := Lib.hid hp; have hr0 : 0 ≤ S2 - (p : Int) + 3 ∧ S2 - (p : Int) ≤ 3000 := (by have h1 := HR2.out; have h2 := H2.out; omega); clear hp))
    obtain ⟨n, hn, hn1, hn2⟩ := law_n S2 p ⟨HR2.out.1, by have := H2.out; omega⟩ HPp.out
    rw [← hn]
    have HNn := Lib.hid (And.intro hn (And.intro hn1 hn2))
    clear hr0 hn hn1 hn2 L3 G3 B3 L4 B4 L5 B5
    go_upto_region 9 with (first
      | (go_at_call 8; refine (dk_new n (by have := HNn.out; omega) _).mono ?_; rintro e w7 ⟨d, sb, ob, rfl, hD, hl, hge⟩; have GE := Lib.hid (show w.heap.size ≤ sb ∧ w.heap.size ≤ ob from by have := L6.out.size; omega); clear hge; have D7 := Lib.hid hD; have L7 := Lib.hid (below_chain L6.out hl); have B7 := Lib.hid (B6.out.below hl B6.out.lt); clear hD hl)
      | (go_at_call 7; refine (ci_first D7.out).mono ?_; rintro e w8 ⟨c, kb, rfl, hC, hl, hc1, hc2⟩; have GC := Lib.hid (show w.heap.size ≤ c ∧ w.heap.size ≤ kb from by have := L7.out.size; omega); clear hc1 hc2; have C8 := Lib.hid hC; have L8 := Lib.hid (below_chain L7.out hl); have B8 := Lib.hid (B7.out.below hl B7.out.lt); clear hC hl)
      | (go_at_call 9; refine (st_new 8 (by omega) _).mono ?_; rintro e w9 ⟨si, xi, bx, mi, bs, rfl, hs, hl, _⟩; have S9 := Lib.hid hs; have L9 := Lib.hid (below_chain L8.out hl); have B9 := Lib.hid (B8.out.below hl B8.out.lt); have C9 := Lib.hid (C8.out.below hl); clear hs hl)
      | (go_at_call 10; refine (pt_load_nil _).mono ?_; rintro e w10 ⟨rfl, hl⟩; have X10 := Lib.hid hl; clear hl)
      | (refine wpl_alloc rfl 25 (by rfl) Tryz.zeroValue25 9 (by rfl) ?_; intro w11 cs11 hk hc hg hz; have K11 := Lib.hid (show Blk w11 w10.heap.size 25 cs11 from hk); have Z11 := Lib.hid hc; have X11 := Lib.hid (bl_n X10.out hg); clear hk hc hg hz; simp only [Act.put, List.setIfInBounds_toArray, List.set_cons_zero, List.set_cons_succ])
      | (refine wpl_over rfl 25 (.tmp 10) (.tmp 39) (by rfl) w10.heap.size (hdC zHd) (by rfl) (by rfl) _ cs11 K11.out (hdC_info zHd) (by rw [Z11.out]; rfl) (hdC_one zHd) ?_; intro w12 hb1 hg hz; have K12 := Lib.hid (show Blk w12 w10.heap.size 25 (hdC zHd).toArray from hb1); have X12 := Lib.hid (bl_g X11.out hg X10.out.size); clear hb1 hg hz; simp only [Act.put, List.setIfInBounds_toArray, List.set_cons_zero, List.set_cons_succ]))
    have L12 := Lib.hid (below_chain L9.out X12.out)
    have B12 := Lib.hid (B9.out.below X12.out B9.out.lt)
    have C12 := Lib.hid (C9.out.below X12.out)
    have S12 := Lib.hid (S9.out.below X12.out)
    clear L6 B6 D7 L7 B7 C8 L8 B8 S9 L9 B9 C9 X10 X11 K11 Z11 X12
    generalize w10.heap.size = tb at *
    go_upto_region 11 with (first
      | (with_reducible refine wpl_valP (v := .agg (hdC zHd).toArray) (by kernel_rfl) (load_head zHd (x := .tmp 10) tb (by have := K12.out.range; rwa [List.toList_toArray] at this) (by with_reducible rfl) (by kernel_rfl)) ?_; simp only [Act.put, List.setIfInBounds_toArray, List.set_cons_zero, List.set_cons_succ])
      | (with_reducible refine wpl_valP (v := .agg (hdC zHd).toArray) (by kernel_rfl) (bld_run 25 (by with_reducible rfl) _ built_hd0) ?_; simp only [Act.put, List.setIfInBounds_toArray, List.set_cons_zero, List.set_cons_succ])
      | (with_reducible refine wpl_valP (v := .bool false) (by kernel_rfl) (cmp_run (u := .agg (hdC zHd).toArray) (v := .agg (hdC zHd).toArray) (b := .neq) (t := 25) (x := .tmp 45) (y := .tmp 46) (by with_reducible rfl) (by kernel_rfl) (by kernel_rfl) (by kernel_rfl) (zHd_neq _)) ?_; simp only [Act.put, List.setIfInBounds_toArray, List.set_cons_zero, List.set_cons_succ])
      | (with_reducible refine wpl_valP (v := .agg (hdC Y).toArray) (by kernel_rfl) (load_head Y (x := .tmp 4) hb (by have := B12.out.range; rwa [List.toList_toArray] at this) (by with_reducible rfl) (by kernel_rfl)) ?_; simp only [Act.put, List.setIfInBounds_toArray, List.set_cons_zero, List.set_cons_succ])
      | (with_reducible refine wpl_valP (v := .agg (hdC Y).toArray) (by kernel_rfl) (load_head Y (x := .tmp 4) hb (by have := B13.out.range; rwa [List.toList_toArray] at this) (by with_reducible rfl) (by kernel_rfl)) ?_; simp only [Act.put, List.setIfInBounds_toArray, List.set_cons_zero, List.set_cons_succ])
      | (with_reducible refine wpl_valP (v := .agg (hdC Y).toArray) (by kernel_rfl) (load_head Y (x := .tmp 4) hb (by have := B14.out.range; rwa [List.toList_toArray] at this) (by with_reducible rfl) (by kernel_rfl)) ?_; simp only [Act.put, List.setIfInBounds_toArray, List.set_cons_zero, List.set_cons_succ])
      | (go_at_call 11; (with_reducible show Calls _ _ #[.pointer none, _, _] _ _); refine (pt_save_nilc _ Y _).mono ?_; rintro e w13 ⟨rfl, hl⟩; have L13 := Lib.hid (below_chain L12.out hl); have B13 := Lib.hid (B12.out.below hl B12.out.lt); have C13 := Lib.hid (C12.out.below hl); have S13 := Lib.hid (S12.out.below hl); clear hl)
      | (go_at_call 11; (with_reducible show Calls _ _ #[_, _, .pointer none] _ _); refine (pt_save_nils C13.out (fun _ _ => NoSt.nil) Y).mono ?_; rintro e w14 ⟨rfl, hl⟩; have L14 := Lib.hid (below_chain L13.out hl); have B14 := Lib.hid (B13.out.below hl B13.out.lt); have C14 := Lib.hid (C13.out.below hl); have S14 := Lib.hid (S13.out.below hl); clear hl)
      | (with_reducible refine wpl_valP (v := .agg (stC 0 none none)) (by kernel_rfl) (bld_run 42 (by with_reducible rfl) _ built_st0) ?_; simp only [Act.put, List.setIfInBounds_toArray, List.set_cons_zero, List.set_cons_succ])
      | (with_reducible refine wpl_boxP (by kernel_rfl) 42 (.tmp 68) (by with_reducible rfl) (stC 0 none none) (by kernel_rfl) ?_; intro w15 hk hg; have N15 := Lib.hid (show Blk w15 w14.heap.size 42 (stC 0 none none) from hk); have L15 := Lib.hid (bl_n L14.out hg); have X15 := Lib.hid (bl_n (Below.refl _ w14) hg); clear hk hg; simp only [Act.put, List.setIfInBounds_toArray, List.set_cons_zero, List.set_cons_succ])
      | (go_at_call 11; refine (pt_save_nils (C14.out.below X15.out) (fun W hb2 => NoSt.zero (N15.out.below hb2 N15.out.lt)) Y).mono ?_; rintro e w16 ⟨rfl, hl⟩; have L16 := Lib.hid (below_chain L15.out hl); have X16 := Lib.hid (below_chain X15.out hl); clear hl))
    have B16 := Lib.hid (B14.out.below X16.out B14.out.lt)
    have C16 := Lib.hid (C14.out.below X16.out)
    have S16 := Lib.hid (S14.out.below X16.out)
    clear L12 B12 C12 S12 K12 L13 B13 C13 S13 L14 B14 C14 S14 N15 L15 X15 X16
    rcases sv_cases n Y with hk | hk | ⟨hr, hk⟩ | ⟨hr, h2, hk⟩ | ⟨hr, h2, h3, hk⟩ | ⟨hr, h2, h3, h4, hk⟩ | ⟨hr, h2, h3, h4, h5, hk⟩
    · obtain ⟨k1, k2, k3, k4⟩ := hk
      have HR := Lib.hid k1
      have hs2 : S2 = secsI Y.geo := by rw [← HS2.out]; exact secsG_right k1
      have d1 : decide ((n : Int) ≥ S2) = true := decide_eq_true (by omega)
      have d2 : decide (Y.num ≥ 0) = true := decide_eq_true (by omega)
      have d3 : decide (Y.num ≤ 1099511627776) = true := decide_eq_true (by omega)
      have d4 : decide (Y.snap ≥ 1) = true := decide_eq_true (by omega)
      have d5 : decide (Y.snap ≤ 1073741824) = true := decide_eq_true (by omega)
      obtain ⟨m, hm⟩ : ∃ m : Nat, Y.num = (m : Int) := ⟨Y.num.toNat, by omega⟩
      obtain ⟨J, hJ⟩ : ∃ J : Nat, (J : Int) = Y.geo.jou := ⟨Y.geo.jou.toNat, by have h : 1 ≤ Y.geo.jou ∧ Y.geo.jou ≤ 1024 := (by obtain ⟨_, _, _, _, _, h⟩ := k1.1; omega); omega⟩
      have hq1 : 0 ≤ ((m % 2 : Nat) : Int) * Y.geo.jou := Int.mul_nonneg (by omega) (by omega)
      have hq2 : 0 ≤ ((m % 2 : Nat) : Int) * (2 * pagesI Y.geo) := Int.mul_nonneg (by omega) (by have := pages_ge k1; omega)
      obtain ⟨hf, hhf⟩ : ∃ hf : Nat, (hf : Int) = 2 + ((m % 2 : Nat) : Int) * Y.geo.jou := ⟨(2 + ((m % 2 : Nat) : Int) * Y.geo.jou).toNat, by omega⟩
      obtain ⟨ar, har⟩ : ∃ ar : Nat, (ar : Int) = 2 + 2 * Y.geo.jou + ((m % 2 : Nat) : Int) * (2 * pagesI Y.geo) := ⟨(2 + 2 * Y.geo.jou + ((m % 2 : Nat) : Int) * (2 * pagesI Y.geo)).toNat, by omega⟩
      have HA := Lib.hid (And.intro hm (And.intro hJ (And.intro hhf har)))
      have HKK := Lib.hid (show SvOk n Y from ⟨k1, k2, k3, k4⟩)
      clear k1 k2 k3 k4 hs2 hm hJ hq1 hq2 hhf har
      go_wp2_with (first
        | (with_reducible refine wpl_valP (v := .agg (geC Y.geo).toArray) (by kernel_rfl) (load_ge (x := .tmp 73) hb 0 Y.geo (B16.out.part 0 (geC Y.geo) rfl) (by with_reducible rfl) (by kernel_rfl)) ?_; simp only [Act.put, List.setIfInBounds_toArray, List.set_cons_zero, List.set_cons_succ])
        | (with_reducible refine wpl_valP (v := .agg (geC Y.geo).toArray) (by kernel_rfl) (load_ge (x := .tmp 78) hb 0 Y.geo (B17.out.part 0 (geC Y.geo) rfl) (by with_reducible rfl) (by kernel_rfl)) ?_; simp only [Act.put, List.setIfInBounds_toArray, List.set_cons_zero, List.set_cons_succ])
        | (go_at_call 12; refine (rright_any HY.out.1).mono ?_; rewrite [decide_eq_true HR.out]; rintro e w17 ⟨rfl, hl⟩; have L17 := Lib.hid (below_chain L16.out hl); have B17 := Lib.hid (B16.out.below hl B16.out.lt); have C17 := Lib.hid (C16.out.below hl); have S17 := Lib.hid (S16.out.below hl); clear hl)
        | (go_at_call 5; refine (rsecsG_any HY.out.1).mono ?_; rewrite [HS2.out]; rintro e w18 ⟨rfl, hl⟩; have L18 := Lib.hid (below_chain L17.out hl); have B18 := Lib.hid (B17.out.below hl B17.out.lt); have C18 := Lib.hid (C17.out.below hl); have S18 := Lib.hid (S17.out.below hl); have y5 : w18.cell? ⟨hb, 5, none⟩ = some (.int .i64 Y.num) := B18.out.cell rfl; have y8 : w18.cell? ⟨hb, 8, none⟩ = some (.int .i64 Y.snap) := B18.out.cell rfl; clear hl)
        | (with_reducible refine wpl_valP (v := .agg (hdC Y).toArray) (by kernel_rfl) (load_head Y (x := .tmp 4) hb (by have := B18.out.range; rwa [List.toList_toArray] at this) (by with_reducible rfl) (by kernel_rfl)) ?_; simp only [Act.put, List.setIfInBounds_toArray, List.set_cons_zero, List.set_cons_succ])
        | (go_at_call 11; refine (save_okY C18.out S18.out Y m HY.out HKK.out (by omega) HA.out.1 ar hf J HA.out.2.2.2 HA.out.2.2.1 HA.out.2.1).mono ?_; rintro e w19 ⟨rfl, hT⟩; have L19 := Lib.hid (show Below w.heap.size w w19 from ((Tch.below (T := []) L18.out).fresh hT (fun i hi => by have h := GE.out; have h2 := GC.out; simp at hi; right; rcases hi with rfl | rfl | rfl | rfl <;> omega)).nil); clear hT))
      go_ret
      exact ⟨rfl, L19.out⟩
    · have HR := Lib.hid hk
      have HB := Lib.hid (show ¬ SvOk n Y from fun h => hk h.1)
      clear hk
      go_wp2_with (first
        | (with_reducible refine wpl_valP (v := .agg (geC Y.geo).toArray) (by kernel_rfl) (load_ge (x := .tmp 73) hb 0 Y.geo (B16.out.part 0 (geC Y.geo) rfl) (by with_reducible rfl) (by kernel_rfl)) ?_; simp only [Act.put, List.setIfInBounds_toArray, List.set_cons_zero, List.set_cons_succ])
        | (go_at_call 12; refine (rright_any HY.out.1).mono ?_; rewrite [decide_eq_false HR.out]; rintro e w17 ⟨rfl, hl⟩; have L17 := Lib.hid (below_chain L16.out hl); have B17 := Lib.hid (B16.out.below hl B16.out.lt); have C17 := Lib.hid (C16.out.below hl); have S17 := Lib.hid (S16.out.below hl); clear hl)
        | (with_reducible refine wpl_valP (v := .agg (hdC Y).toArray) (by kernel_rfl) (load_head Y (x := .tmp 4) hb (by have := B17.out.range; rwa [List.toList_toArray] at this) (by with_reducible rfl) (by kernel_rfl)) ?_; simp only [Act.put, List.setIfInBounds_toArray, List.set_cons_zero, List.set_cons_succ])
        | (go_at_call 11; refine (pt_save_bad C17.out S17.out Y HY.out HB.out).mono ?_; rintro e w19 ⟨rfl, hl⟩; have L19 := Lib.hid (below_chain L17.out hl); clear hl))
      go_ret
      exact ⟨rfl, L19.out⟩
    · have HR := Lib.hid hr
      have hs2 : S2 = secsI Y.geo := by rw [← HS2.out]; exact secsG_right hr
      have HB := Lib.hid (show ¬ SvOk n Y from fun h => by obtain ⟨k1, k2, k3, k4⟩ := h; omega)
      have d1 : decide ((n : Int) ≥ S2) = false := decide_eq_false (by omega)
      clear hr hs2 hk
      go_wp2_with (first
        | (with_reducible refine wpl_valP (v := .agg (geC Y.geo).toArray) (by kernel_rfl) (load_ge (x := .tmp 73) hb 0 Y.geo (B16.out.part 0 (geC Y.geo) rfl) (by with_reducible rfl) (by kernel_rfl)) ?_; simp only [Act.put, List.setIfInBounds_toArray, List.set_cons_zero, List.set_cons_succ])
        | (with_reducible refine wpl_valP (v := .agg (geC Y.geo).toArray) (by kernel_rfl) (load_ge (x := .tmp 78) hb 0 Y.geo (B17.out.part 0 (geC Y.geo) rfl) (by with_reducible rfl) (by kernel_rfl)) ?_; simp only [Act.put, List.setIfInBounds_toArray, List.set_cons_zero, List.set_cons_succ])
        | (go_at_call 12; refine (rright_any HY.out.1).mono ?_; rewrite [decide_eq_true HR.out]; rintro e w17 ⟨rfl, hl⟩; have L17 := Lib.hid (below_chain L16.out hl); have B17 := Lib.hid (B16.out.below hl B16.out.lt); have C17 := Lib.hid (C16.out.below hl); have S17 := Lib.hid (S16.out.below hl); clear hl)
        | (go_at_call 5; refine (rsecsG_any HY.out.1).mono ?_; rewrite [HS2.out]; rintro e w18 ⟨rfl, hl⟩; have L18 := Lib.hid (below_chain L17.out hl); have B18 := Lib.hid (B17.out.below hl B17.out.lt); have C18 := Lib.hid (C17.out.below hl); have S18 := Lib.hid (S17.out.below hl); have y5 : w18.cell? ⟨hb, 5, none⟩ = some (.int .i64 Y.num) := B18.out.cell rfl; have y8 : w18.cell? ⟨hb, 8, none⟩ = some (.int .i64 Y.snap) := B18.out.cell rfl; clear hl)
        | (with_reducible refine wpl_valP (v := .agg (hdC Y).toArray) (by kernel_rfl) (load_head Y (x := .tmp 4) hb (by have := B18.out.range; rwa [List.toList_toArray] at this) (by with_reducible rfl) (by kernel_rfl)) ?_; simp only [Act.put, List.setIfInBounds_toArray, List.set_cons_zero, List.set_cons_succ])
        | (go_at_call 11; refine (pt_save_bad C18.out S18.out Y HY.out HB.out).mono ?_; rintro e w19 ⟨rfl, hl⟩; have L19 := Lib.hid (below_chain L18.out hl); clear hl))
      go_ret
      exact ⟨rfl, L19.out⟩
    · have HR := Lib.hid hr
      have hs2 : S2 = secsI Y.geo := by rw [← HS2.out]; exact secsG_right hr
      have HB := Lib.hid (show ¬ SvOk n Y from fun h => by obtain ⟨k1, k2, k3, k4⟩ := h; omega)
      have d1 : decide ((n : Int) ≥ S2) = true := decide_eq_true (by omega)
      have d2 : decide (Y.num ≥ 0) = false := decide_eq_false (by omega)
      clear hr hs2 h2 hk
      go_wp2_with (first
        | (with_reducible refine wpl_valP (v := .agg (geC Y.geo).toArray) (by kernel_rfl) (load_ge (x := .tmp 73) hb 0 Y.geo (B16.out.part 0 (geC Y.geo) rfl) (by with_reducible rfl) (by kernel_rfl)) ?_; simp only [Act.put, List.setIfInBounds_toArray, List.set_cons_zero, List.set_cons_succ])
        | (with_reducible refine wpl_valP (v := .agg (geC Y.geo).toArray) (by kernel_rfl) (load_ge (x := .tmp 78) hb 0 Y.geo (B17.out.part 0 (geC Y.geo) rfl) (by with_reducible rfl) (by kernel_rfl)) ?_; simp only [Act.put, List.setIfInBounds_toArray, List.set_cons_zero, List.set_cons_succ])
        | (go_at_call 12; refine (rright_any HY.out.1).mono ?_; rewrite [decide_eq_true HR.out]; rintro e w17 ⟨rfl, hl⟩; have L17 := Lib.hid (below_chain L16.out hl); have B17 := Lib.hid (B16.out.below hl B16.out.lt); have C17 := Lib.hid (C16.out.below hl); have S17 := Lib.hid (S16.out.below hl); clear hl)
        | (go_at_call 5; refine (rsecsG_any HY.out.1).mono ?_; rewrite [HS2.out]; rintro e w18 ⟨rfl, hl⟩; have L18 := Lib.hid (below_chain L17.out hl); have B18 := Lib.hid (B17.out.below hl B17.out.lt); have C18 := Lib.hid (C17.out.below hl); have S18 := Lib.hid (S17.out.below hl); have y5 : w18.cell? ⟨hb, 5, none⟩ = some (.int .i64 Y.num) := B18.out.cell rfl; have y8 : w18.cell? ⟨hb, 8, none⟩ = some (.int .i64 Y.snap) := B18.out.cell rfl; clear hl)
        | (with_reducible refine wpl_valP (v := .agg (hdC Y).toArray) (by kernel_rfl) (load_head Y (x := .tmp 4) hb (by have := B18.out.range; rwa [List.toList_toArray] at this) (by with_reducible rfl) (by kernel_rfl)) ?_; simp only [Act.put, List.setIfInBounds_toArray, List.set_cons_zero, List.set_cons_succ])
        | (go_at_call 11; refine (pt_save_bad C18.out S18.out Y HY.out HB.out).mono ?_; rintro e w19 ⟨rfl, hl⟩; have L19 := Lib.hid (below_chain L18.out hl); clear hl))
      go_ret
      exact ⟨rfl, L19.out⟩
    · have HR := Lib.hid hr
      have hs2 : S2 = secsI Y.geo := by rw [← HS2.out]; exact secsG_right hr
      have HB := Lib.hid (show ¬ SvOk n Y from fun h => by obtain ⟨k1, k2, k3, k4⟩ := h; omega)
      have d1 : decide ((n : Int) ≥ S2) = true := decide_eq_true (by omega)
      have d2 : decide (Y.num ≥ 0) = true := decide_eq_true (by omega)
      have d3 : decide (Y.num ≤ 1099511627776) = false := decide_eq_false (by omega)
      clear hr hs2 h2 h3 hk
      go_wp2_with (first
        | (with_reducible refine wpl_valP (v := .agg (geC Y.geo).toArray) (by kernel_rfl) (load_ge (x := .tmp 73) hb 0 Y.geo (B16.out.part 0 (geC Y.geo) rfl) (by with_reducible rfl) (by kernel_rfl)) ?_; simp only [Act.put, List.setIfInBounds_toArray, List.set_cons_zero, List.set_cons_succ])
        | (with_reducible refine wpl_valP (v := .agg (geC Y.geo).toArray) (by kernel_rfl) (load_ge (x := .tmp 78) hb 0 Y.geo (B17.out.part 0 (geC Y.geo) rfl) (by with_reducible rfl) (by kernel_rfl)) ?_; simp only [Act.put, List.setIfInBounds_toArray, List.set_cons_zero, List.set_cons_succ])
        | (go_at_call 12; refine (rright_any HY.out.1).mono ?_; rewrite [decide_eq_true HR.out]; rintro e w17 ⟨rfl, hl⟩; have L17 := Lib.hid (below_chain L16.out hl); have B17 := Lib.hid (B16.out.below hl B16.out.lt); have C17 := Lib.hid (C16.out.below hl); have S17 := Lib.hid (S16.out.below hl); clear hl)
        | (go_at_call 5; refine (rsecsG_any HY.out.1).mono ?_; rewrite [HS2.out]; rintro e w18 ⟨rfl, hl⟩; have L18 := Lib.hid (below_chain L17.out hl); have B18 := Lib.hid (B17.out.below hl B17.out.lt); have C18 := Lib.hid (C17.out.below hl); have S18 := Lib.hid (S17.out.below hl); have y5 : w18.cell? ⟨hb, 5, none⟩ = some (.int .i64 Y.num) := B18.out.cell rfl; have y8 : w18.cell? ⟨hb, 8, none⟩ = some (.int .i64 Y.snap) := B18.out.cell rfl; clear hl)
        | (with_reducible refine wpl_valP (v := .agg (hdC Y).toArray) (by kernel_rfl) (load_head Y (x := .tmp 4) hb (by have := B18.out.range; rwa [List.toList_toArray] at this) (by with_reducible rfl) (by kernel_rfl)) ?_; simp only [Act.put, List.setIfInBounds_toArray, List.set_cons_zero, List.set_cons_succ])
        | (go_at_call 11; refine (pt_save_bad C18.out S18.out Y HY.out HB.out).mono ?_; rintro e w19 ⟨rfl, hl⟩; have L19 := Lib.hid (below_chain L18.out hl); clear hl))
      go_ret
      exact ⟨rfl, L19.out⟩
    · have HR := Lib.hid hr
      have hs2 : S2 = secsI Y.geo := by rw [← HS2.out]; exact secsG_right hr
      have HB := Lib.hid (show ¬ SvOk n Y from fun h => by obtain ⟨k1, k2, k3, k4⟩ := h; omega)
      have d1 : decide ((n : Int) ≥ S2) = true := decide_eq_true (by omega)
      have d2 : decide (Y.num ≥ 0) = true := decide_eq_true (by omega)
      have d3 : decide (Y.num ≤ 1099511627776) = true := decide_eq_true (by omega)
      have d4 : decide (Y.snap ≥ 1) = false := decide_eq_false (by omega)
      clear hr hs2 h2 h3 h4 hk
      go_wp2_with (first
        | (with_reducible refine wpl_valP (v := .agg (geC Y.geo).toArray) (by kernel_rfl) (load_ge (x := .tmp 73) hb 0 Y.geo (B16.out.part 0 (geC Y.geo) rfl) (by with_reducible rfl) (by kernel_rfl)) ?_; simp only [Act.put, List.setIfInBounds_toArray, List.set_cons_zero, List.set_cons_succ])
        | (with_reducible refine wpl_valP (v := .agg (geC Y.geo).toArray) (by kernel_rfl) (load_ge (x := .tmp 78) hb 0 Y.geo (B17.out.part 0 (geC Y.geo) rfl) (by with_reducible rfl) (by kernel_rfl)) ?_; simp only [Act.put, List.setIfInBounds_toArray, List.set_cons_zero, List.set_cons_succ])
        | (go_at_call 12; refine (rright_any HY.out.1).mono ?_; rewrite [decide_eq_true HR.out]; rintro e w17 ⟨rfl, hl⟩; have L17 := Lib.hid (below_chain L16.out hl); have B17 := Lib.hid (B16.out.below hl B16.out.lt); have C17 := Lib.hid (C16.out.below hl); have S17 := Lib.hid (S16.out.below hl); clear hl)
        | (go_at_call 5; refine (rsecsG_any HY.out.1).mono ?_; rewrite [HS2.out]; rintro e w18 ⟨rfl, hl⟩; have L18 := Lib.hid (below_chain L17.out hl); have B18 := Lib.hid (B17.out.below hl B17.out.lt); have C18 := Lib.hid (C17.out.below hl); have S18 := Lib.hid (S17.out.below hl); have y5 : w18.cell? ⟨hb, 5, none⟩ = some (.int .i64 Y.num) := B18.out.cell rfl; have y8 : w18.cell? ⟨hb, 8, none⟩ = some (.int .i64 Y.snap) := B18.out.cell rfl; clear hl)
        | (with_reducible refine wpl_valP (v := .agg (hdC Y).toArray) (by kernel_rfl) (load_head Y (x := .tmp 4) hb (by have := B18.out.range; rwa [List.toList_toArray] at this) (by with_reducible rfl) (by kernel_rfl)) ?_; simp only [Act.put, List.setIfInBounds_toArray, List.set_cons_zero, List.set_cons_succ])
        | (go_at_call 11; refine (pt_save_bad C18.out S18.out Y HY.out HB.out).mono ?_; rintro e w19 ⟨rfl, hl⟩; have L19 := Lib.hid (below_chain L18.out hl); clear hl))
      go_ret
      exact ⟨rfl, L19.out⟩
    · have HR := Lib.hid hr
      have hs2 : S2 = secsI Y.geo := by rw [← HS2.out]; exact secsG_right hr
      have HB := Lib.hid (show ¬ SvOk n Y from fun h => by obtain ⟨k1, k2, k3, k4⟩ := h; omega)
      have d1 : decide ((n : Int) ≥ S2) = true := decide_eq_true (by omega)
      have d2 : decide (Y.num ≥ 0) = true := decide_eq_true (by omega)
      have d3 : decide (Y.num ≤ 1099511627776) = true := decide_eq_true (by omega)
      have d4 : decide (Y.snap ≥ 1) = true := decide_eq_true (by omega)
      have d5 : decide (Y.snap ≤ 1073741824) = false := decide_eq_false (by omega)
      clear hr hs2 h2 h3 h4 h5 hk
      go_wp2_with (first
        | (with_reducible refine wpl_valP (v := .agg (geC Y.geo).toArray) (by kernel_rfl) (load_ge (x := .tmp 73) hb 0 Y.geo (B16.out.part 0 (geC Y.geo) rfl) (by with_reducible rfl) (by kernel_rfl)) ?_; simp only [Act.put, List.setIfInBounds_toArray, List.set_cons_zero, List.set_cons_succ])
        | (with_reducible refine wpl_valP (v := .agg (geC Y.geo).toArray) (by kernel_rfl) (load_ge (x := .tmp 78) hb 0 Y.geo (B17.out.part 0 (geC Y.geo) rfl) (by with_reducible rfl) (by kernel_rfl)) ?_; simp only [Act.put, List.setIfInBounds_toArray, List.set_cons_zero, List.set_cons_succ])
        | (go_at_call 12; refine (rright_any HY.out.1).mono ?_; rewrite [decide_eq_true HR.out]; rintro e w17 ⟨rfl, hl⟩; have L17 := Lib.hid (below_chain L16.out hl); have B17 := Lib.hid (B16.out.below hl B16.out.lt); have C17 := Lib.hid (C16.out.below hl); have S17 := Lib.hid (S16.out.below hl); clear hl)
        | (go_at_call 5; refine (rsecsG_any HY.out.1).mono ?_; rewrite [HS2.out]; rintro e w18 ⟨rfl, hl⟩; have L18 := Lib.hid (below_chain L17.out hl); have B18 := Lib.hid (B17.out.below hl B17.out.lt); have C18 := Lib.hid (C17.out.below hl); have S18 := Lib.hid (S17.out.below hl); have y5 : w18.cell? ⟨hb, 5, none⟩ = some (.int .i64 Y.num) := B18.out.cell rfl; have y8 : w18.cell? ⟨hb, 8, none⟩ = some (.int .i64 Y.snap) := B18.out.cell rfl; clear hl)
        | (with_reducible refine wpl_valP (v := .agg (hdC Y).toArray) (by kernel_rfl) (load_head Y (x := .tmp 4) hb (by have := B18.out.range; rwa [List.toList_toArray] at this) (by with_reducible rfl) (by kernel_rfl)) ?_; simp only [Act.put, List.setIfInBounds_toArray, List.set_cons_zero, List.set_cons_succ])
        | (go_at_call 11; refine (pt_save_bad C18.out S18.out Y HY.out HB.out).mono ?_; rintro e w19 ⟨rfl, hl⟩; have L19 := Lib.hid (below_chain L18.out hl); clear hl))
      go_ret
      exact ⟨rfl, L19.out⟩
end Go.Proofs.YtpadifphnbdbpaaGreat
