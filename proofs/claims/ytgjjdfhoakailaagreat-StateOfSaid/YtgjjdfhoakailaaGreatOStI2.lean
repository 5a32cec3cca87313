/-
  what this claim needs of: StI2, StI3, StI4, StI5, StI6, StI7 (written by cut.py).
-/
import Derived.Test.YtgjjdfhoakailaaGreatOStI1
namespace Go.Proofs.YtgjjdfhoakailaaGreat
open Go.RowKit Go.Maps Go.Sort Go.Shelf
set_option linter.unusedVariables false
set_option linter.unusedSimpArgs false

section
variable {P : Program} {w : World} {ops : Array Oper} {rest : List Oper} {o : Oper} {a : Act} {Q : Exit → Act → World → Prop}
/-- A struct is built, its guard met. -/
theorem wpl_mkG (hw : Region.wanted o (yielded ops a.tmps) = true) (t : TypeId) (parts : Array (Nat × Operand)) (ho : o.op = .build t parts) (vals : List (Nat × Value)) (hl : parts.toList.map (fun x => (x.1, a.eval x.2)) = vals) (cs : Array Value) (hf : P.built t vals = some cs)
    (h : wpList P ops Q rest (a.put o.dst (.agg cs)) w) : wpList P ops Q (o :: rest) a w := by
  have hf' : P.built t (parts.map fun (i, x) => (i, a.eval x)).toList = some cs := by
    rw [Array.toList_map]
    rw [← hl] at hf
    exact hf
  refine wpl_valG (v := .agg cs) hw ?_ h
  have hr := run_build w t (parts.map fun (i, x) => (i, a.eval x)) cs hf'
  unfold execOp
  simp only [ho, Sem.run_bind, hr, Result.andThen_ok]
  rfl
end
instance : DecidableEq Pl := fun a b => decidable_of_iff ((a.pos, a.sec, a.uni, a.ref) = (b.pos, b.sec, b.uni, b.ref)) (by cases a; cases b; simp)
instance : DecidableEq Sl := fun a b => decidable_of_iff ((a.key, a.off, a.mask) = (b.key, b.off, b.mask)) (by cases a; cases b; simp)
theorem built_zK : Tryz.prog.built 50 [] = some (keyL zKey).toArray := by kernel_rfl
theorem built_zP : Tryz.prog.built 52 [] = some (plC zPl).toArray := by kernel_rfl
theorem sl_eql {s t : Sl} (hs : SlB s) (ht : SlB t) (w : World) : (binOp BinOp.eql 54 (.agg (slC s).toArray) (.agg (slC t).toArray)).run Tryz.prog w = .ok (.bool (decide (s = t))) w := by
  have hE := run_equalIn_deep (P := Tryz.prog) 9997 3 54 (by kernel_rfl)
  have ct : Tryz.prog.cellsOf 54 = 34 := by kernel_rfl
  have hf : ∀ i : Sl, (Value.agg (slC i).toArray).formed Tryz.prog 54 = true := fun i => by simp [Value.formed, Tryz.underlying54, ct, slC_len]
  have hc : ∀ i : Sl, (Value.agg (slC i).toArray).cells.toList = slC i := fun i => by simp [Value.cells]
  obtain ⟨r, hr, hrr⟩ := hE w 3 3 _ _ _ _ (hf s) (hf t) (by rw [hc]; exact sl_litsOf 0 hs) (by rw [hc]; exact sl_litsOf 0 ht)
  have e : r = decide (s = t) := by
    by_cases h : s = t
    · rw [decide_eq_true h]
      exact hrr.2 (by rw [h])
    · rw [decide_eq_false h]
      rcases hb : r with _ | _
      · rfl
      · exact absurd (litsSl_inj (hrr.1 hb)) h
  subst e
  rw [run_eql_struct, hr]
  rfl
theorem pl_eql {s t : Pl} (hs : PlB s) (ht : PlB t) (w : World) : (binOp BinOp.eql 52 (.agg (plC s).toArray) (.agg (plC t).toArray)).run Tryz.prog w = .ok (.bool (decide (s = t))) w := by
  have hE := run_equalIn_deep (P := Tryz.prog) 9998 2 52 (by kernel_rfl)
  have ct : Tryz.prog.cellsOf 52 = 4 := by kernel_rfl
  have hf : ∀ i : Pl, (Value.agg (plC i).toArray).formed Tryz.prog 52 = true := fun i => by simp [Value.formed, Tryz.underlying52, ct, plC_len]
  have hc : ∀ i : Pl, (Value.agg (plC i).toArray).cells.toList = plC i := fun i => by simp [Value.cells]
  obtain ⟨r, hr, hrr⟩ := hE w 2 2 _ _ _ _ (hf s) (hf t) (by rw [hc]; exact pl_litsOf 0 hs) (by rw [hc]; exact pl_litsOf 0 ht)
  have e : r = decide (s = t) := by
    by_cases h : s = t
    · rw [decide_eq_true h]
      exact hrr.2 (by rw [h])
    · rw [decide_eq_false h]
      rcases hb : r with _ | _
      · rfl
      · exact absurd (litsPl_inj (hrr.1 hb)) h
  subst e
  rw [run_eql_struct, hr]
  rfl
def rightR (i : It) : Bool :=
  if i.kind = 1 then placeB i.pl true && decide (i.snap = 0) && decide (i.unit = 0) && decide (i.sl = zSl)
  else if i.kind = 2 then inB i.snap 0 1073741824 && inB i.unit 0 511 && sliceB i.sl && decide (i.key = zKey) && decide (i.pl = zPl)
  else if i.kind = 3 then inB i.snap 1 1073741824 && decide (i.unit = 0) && decide (i.sl = zSl) && decide (i.key = zKey) && decide (i.pl = zPl)
  else false
def RtPost (i : It) (w : World) (e : Ending) (w' : World) : Prop := e = .returned (.bool (rightR i)) ∧ Below w.heap.size w w'
set_option maxRecDepth 100000 in
set_option maxHeartbeats 2000000 in
theorem right14_1 {w : World} {i : It} (hb : ItB i) (hk : i.kind = 1) : Calls Tryz.prog 85 #[.agg (itC i).toArray] w (RtPost i w) := by
  have e1 : (i.kind == 1) = true := beq_iff_eq.2 hk
  obtain ⟨b1, h1⟩ : ∃ q, q = placeB i.pl true := ⟨_, rfl⟩
  obtain ⟨b2, h2⟩ : ∃ q : Bool, q = decide (i.snap = 0) := ⟨_, rfl⟩
  obtain ⟨b3, h3⟩ : ∃ q : Bool, q = decide (i.unit = 0) := ⟨_, rfl⟩
  obtain ⟨b4, h4⟩ : ∃ q : Bool, q = decide (i.sl = zSl) := ⟨_, rfl⟩
  have HR0 := Lib.hid (show rightR i = (b1 && b2 && b3 && b4) by unfold rightR; rw [if_pos hk, h1, h2, h3, h4])
  have g2 : (i.snap == 0) = b2 := by rw [h2]; rfl
  have g3 : (i.unit == 0) = b3 := by rw [h3]; rfl
  have fq := fun w => sl_eql hb.2.2.2.2 zSl_B w
  rw [← h4] at fq
  have HB1 := Lib.hid h1
  clear hb hk h1 h2 h3 h4
  cases b1
  · skip
    go_enter Tryz.func85, Tryz.ntmps85
    go_upto_region 1 with (first
      | ((with_reducible show wpList _ _ _ (_ :: _) _ _); refine wpl_box rfl 56 (.tmp 0) (by rfl) (itC i).toArray (by rfl) ?_; intro w1 hk hg hz; have K1 := Lib.hid hk; have L1 := Lib.hid (bl_n (Below.refl _ w) hg); clear hk hg hz; simp only [Act.put, List.setIfInBounds_toArray, List.set_cons_zero, List.set_cons_succ]))
    have k0 := itC_cell K1.out (j := 0) (v := .int .u8 i.kind) rfl
    have sn := itC_cell K1.out (it_snap i)
    have un := itC_cell K1.out (it_unit i)
    have RP := Lib.hid (K1.out.part 33 (plC i.pl) (it_pl i))
    have RS := Lib.hid (K1.out.part 39 (slC i.sl) (it_sl i))
    have RK := Lib.hid (K1.out.part 1 (keyL i.key) (it_key i))
    go_wp2_with (first
      | ((with_reducible show wpList _ _ _ (_ :: _) _ _); refine wpl_loadG (by rfl) 52 (.tmp 7) (by rfl) w.heap.size 33 (by rfl) (plC i.pl) _ RP.out Tryz.underlying52 rfl (plC_infoB _) ?_; simp only [Act.put, List.setIfInBounds_toArray, List.set_cons_zero, List.set_cons_succ])
      | (go_at_call 112; refine (place14 i.pl true).mono ?_; rintro e w2 ⟨rfl, hb⟩; rewrite [← HB1.out]; have L2 := Lib.hid (below_chain L1.out hb); have K2 := Lib.hid (K1.out.below hb K1.out.lt); have sn2 := itC_cell K2.out (it_snap i); have un2 := itC_cell K2.out (it_unit i); have RS2 := Lib.hid (K2.out.part 39 (slC i.sl) (it_sl i)); clear hb)
      | ((with_reducible show wpList _ _ _ (_ :: _) _ _); refine wpl_loadG (by rfl) 54 (.tmp 21) (by rfl) w.heap.size 39 (by rfl) (slC i.sl) _ RS2.out Tryz.underlying54 rfl (slC_info _) ?_; simp only [Act.put, List.setIfInBounds_toArray, List.set_cons_zero, List.set_cons_succ])
      | ((with_reducible show wpList _ _ _ (_ :: _) _ _); refine wpl_mkG (by rfl) 54 #[] (by rfl) [] (by rfl) _ built_zSl ?_; simp only [Act.put, List.setIfInBounds_toArray, List.set_cons_zero, List.set_cons_succ]))
    go_ret
    exact ⟨by rw [HR0.out]; rfl, L2.out⟩
  · cases b2
    · skip
      go_enter Tryz.func85, Tryz.ntmps85
      go_upto_region 1 with (first
        | ((with_reducible show wpList _ _ _ (_ :: _) _ _); refine wpl_box rfl 56 (.tmp 0) (by rfl) (itC i).toArray (by rfl) ?_; intro w1 hk hg hz; have K1 := Lib.hid hk; have L1 := Lib.hid (bl_n (Below.refl _ w) hg); clear hk hg hz; simp only [Act.put, List.setIfInBounds_toArray, List.set_cons_zero, List.set_cons_succ]))
      have k0 := itC_cell K1.out (j := 0) (v := .int .u8 i.kind) rfl
      have sn := itC_cell K1.out (it_snap i)
      have un := itC_cell K1.out (it_unit i)
      have RP := Lib.hid (K1.out.part 33 (plC i.pl) (it_pl i))
      have RS := Lib.hid (K1.out.part 39 (slC i.sl) (it_sl i))
      have RK := Lib.hid (K1.out.part 1 (keyL i.key) (it_key i))
      go_wp2_with (first
        | ((with_reducible show wpList _ _ _ (_ :: _) _ _); refine wpl_loadG (by rfl) 52 (.tmp 7) (by rfl) w.heap.size 33 (by rfl) (plC i.pl) _ RP.out Tryz.underlying52 rfl (plC_infoB _) ?_; simp only [Act.put, List.setIfInBounds_toArray, List.set_cons_zero, List.set_cons_succ])
        | (go_at_call 112; refine (place14 i.pl true).mono ?_; rintro e w2 ⟨rfl, hb⟩; rewrite [← HB1.out]; have L2 := Lib.hid (below_chain L1.out hb); have K2 := Lib.hid (K1.out.below hb K1.out.lt); have sn2 := itC_cell K2.out (it_snap i); have un2 := itC_cell K2.out (it_unit i); have RS2 := Lib.hid (K2.out.part 39 (slC i.sl) (it_sl i)); clear hb)
        | ((with_reducible show wpList _ _ _ (_ :: _) _ _); refine wpl_loadG (by rfl) 54 (.tmp 21) (by rfl) w.heap.size 39 (by rfl) (slC i.sl) _ RS2.out Tryz.underlying54 rfl (slC_info _) ?_; simp only [Act.put, List.setIfInBounds_toArray, List.set_cons_zero, List.set_cons_succ])
        | ((with_reducible show wpList _ _ _ (_ :: _) _ _); refine wpl_mkG (by rfl) 54 #[] (by rfl) [] (by rfl) _ built_zSl ?_; simp only [Act.put, List.setIfInBounds_toArray, List.set_cons_zero, List.set_cons_succ]))
      go_ret
      exact ⟨by rw [HR0.out]; rfl, L2.out⟩
    · cases b3
      · skip
        go_enter Tryz.func85, Tryz.ntmps85
        go_upto_region 1 with (first
          | ((with_reducible show wpList _ _ _ (_ :: _) _ _); refine wpl_box rfl 56 (.tmp 0) (by rfl) (itC i).toArray (by rfl) ?_; intro w1 hk hg hz; have K1 := Lib.hid hk; have L1 := Lib.hid (bl_n (Below.refl _ w) hg); clear hk hg hz; simp only [Act.put, List.setIfInBounds_toArray, List.set_cons_zero, List.set_cons_succ]))
        have k0 := itC_cell K1.out (j := 0) (v := .int .u8 i.kind) rfl
        have sn := itC_cell K1.out (it_snap i)
        have un := itC_cell K1.out (it_unit i)
        have RP := Lib.hid (K1.out.part 33 (plC i.pl) (it_pl i))
        have RS := Lib.hid (K1.out.part 39 (slC i.sl) (it_sl i))
        have RK := Lib.hid (K1.out.part 1 (keyL i.key) (it_key i))
        go_wp2_with (first
          | ((with_reducible show wpList _ _ _ (_ :: _) _ _); refine wpl_loadG (by rfl) 52 (.tmp 7) (by rfl) w.heap.size 33 (by rfl) (plC i.pl) _ RP.out Tryz.underlying52 rfl (plC_infoB _) ?_; simp only [Act.put, List.setIfInBounds_toArray, List.set_cons_zero, List.set_cons_succ])
          | (go_at_call 112; refine (place14 i.pl true).mono ?_; rintro e w2 ⟨rfl, hb⟩; rewrite [← HB1.out]; have L2 := Lib.hid (below_chain L1.out hb); have K2 := Lib.hid (K1.out.below hb K1.out.lt); have sn2 := itC_cell K2.out (it_snap i); have un2 := itC_cell K2.out (it_unit i); have RS2 := Lib.hid (K2.out.part 39 (slC i.sl) (it_sl i)); clear hb)
          | ((with_reducible show wpList _ _ _ (_ :: _) _ _); refine wpl_loadG (by rfl) 54 (.tmp 21) (by rfl) w.heap.size 39 (by rfl) (slC i.sl) _ RS2.out Tryz.underlying54 rfl (slC_info _) ?_; simp only [Act.put, List.setIfInBounds_toArray, List.set_cons_zero, List.set_cons_succ])
          | ((with_reducible show wpList _ _ _ (_ :: _) _ _); refine wpl_mkG (by rfl) 54 #[] (by rfl) [] (by rfl) _ built_zSl ?_; simp only [Act.put, List.setIfInBounds_toArray, List.set_cons_zero, List.set_cons_succ]))
        go_ret
        exact ⟨by rw [HR0.out]; rfl, L2.out⟩
      · cases b4
        · skip
          go_enter Tryz.func85, Tryz.ntmps85
          go_upto_region 1 with (first
            | ((with_reducible show wpList _ _ _ (_ :: _) _ _); refine wpl_box rfl 56 (.tmp 0) (by rfl) (itC i).toArray (by rfl) ?_; intro w1 hk hg hz; have K1 := Lib.hid hk; have L1 := Lib.hid (bl_n (Below.refl _ w) hg); clear hk hg hz; simp only [Act.put, List.setIfInBounds_toArray, List.set_cons_zero, List.set_cons_succ]))
          have k0 := itC_cell K1.out (j := 0) (v := .int .u8 i.kind) rfl
          have sn := itC_cell K1.out (it_snap i)
          have un := itC_cell K1.out (it_unit i)
          have RP := Lib.hid (K1.out.part 33 (plC i.pl) (it_pl i))
          have RS := Lib.hid (K1.out.part 39 (slC i.sl) (it_sl i))
          have RK := Lib.hid (K1.out.part 1 (keyL i.key) (it_key i))
          go_wp2_with (first
            | ((with_reducible show wpList _ _ _ (_ :: _) _ _); refine wpl_loadG (by rfl) 52 (.tmp 7) (by rfl) w.heap.size 33 (by rfl) (plC i.pl) _ RP.out Tryz.underlying52 rfl (plC_infoB _) ?_; simp only [Act.put, List.setIfInBounds_toArray, List.set_cons_zero, List.set_cons_succ])
            | (go_at_call 112; refine (place14 i.pl true).mono ?_; rintro e w2 ⟨rfl, hb⟩; rewrite [← HB1.out]; have L2 := Lib.hid (below_chain L1.out hb); have K2 := Lib.hid (K1.out.below hb K1.out.lt); have sn2 := itC_cell K2.out (it_snap i); have un2 := itC_cell K2.out (it_unit i); have RS2 := Lib.hid (K2.out.part 39 (slC i.sl) (it_sl i)); clear hb)
            | ((with_reducible show wpList _ _ _ (_ :: _) _ _); refine wpl_loadG (by rfl) 54 (.tmp 21) (by rfl) w.heap.size 39 (by rfl) (slC i.sl) _ RS2.out Tryz.underlying54 rfl (slC_info _) ?_; simp only [Act.put, List.setIfInBounds_toArray, List.set_cons_zero, List.set_cons_succ])
            | ((with_reducible show wpList _ _ _ (_ :: _) _ _); refine wpl_mkG (by rfl) 54 #[] (by rfl) [] (by rfl) _ built_zSl ?_; simp only [Act.put, List.setIfInBounds_toArray, List.set_cons_zero, List.set_cons_succ]))
          go_ret
          exact ⟨by rw [HR0.out]; rfl, L2.out⟩
        · skip
          go_enter Tryz.func85, Tryz.ntmps85
          go_upto_region 1 with (first
            | ((with_reducible show wpList _ _ _ (_ :: _) _ _); refine wpl_box rfl 56 (.tmp 0) (by rfl) (itC i).toArray (by rfl) ?_; intro w1 hk hg hz; have K1 := Lib.hid hk; have L1 := Lib.hid (bl_n (Below.refl _ w) hg); clear hk hg hz; simp only [Act.put, List.setIfInBounds_toArray, List.set_cons_zero, List.set_cons_succ]))
          have k0 := itC_cell K1.out (j := 0) (v := .int .u8 i.kind) rfl
          have sn := itC_cell K1.out (it_snap i)
          have un := itC_cell K1.out (it_unit i)
          have RP := Lib.hid (K1.out.part 33 (plC i.pl) (it_pl i))
          have RS := Lib.hid (K1.out.part 39 (slC i.sl) (it_sl i))
          have RK := Lib.hid (K1.out.part 1 (keyL i.key) (it_key i))
          go_wp2_with (first
            | ((with_reducible show wpList _ _ _ (_ :: _) _ _); refine wpl_loadG (by rfl) 52 (.tmp 7) (by rfl) w.heap.size 33 (by rfl) (plC i.pl) _ RP.out Tryz.underlying52 rfl (plC_infoB _) ?_; simp only [Act.put, List.setIfInBounds_toArray, List.set_cons_zero, List.set_cons_succ])
            | (go_at_call 112; refine (place14 i.pl true).mono ?_; rintro e w2 ⟨rfl, hb⟩; rewrite [← HB1.out]; have L2 := Lib.hid (below_chain L1.out hb); have K2 := Lib.hid (K1.out.below hb K1.out.lt); have sn2 := itC_cell K2.out (it_snap i); have un2 := itC_cell K2.out (it_unit i); have RS2 := Lib.hid (K2.out.part 39 (slC i.sl) (it_sl i)); clear hb)
            | ((with_reducible show wpList _ _ _ (_ :: _) _ _); refine wpl_loadG (by rfl) 54 (.tmp 21) (by rfl) w.heap.size 39 (by rfl) (slC i.sl) _ RS2.out Tryz.underlying54 rfl (slC_info _) ?_; simp only [Act.put, List.setIfInBounds_toArray, List.set_cons_zero, List.set_cons_succ])
            | ((with_reducible show wpList _ _ _ (_ :: _) _ _); refine wpl_mkG (by rfl) 54 #[] (by rfl) [] (by rfl) _ built_zSl ?_; simp only [Act.put, List.setIfInBounds_toArray, List.set_cons_zero, List.set_cons_succ]))
          go_ret
          exact ⟨by rw [HR0.out]; rfl, L2.out⟩
set_option maxRecDepth 100000 in
set_option maxHeartbeats 2000000 in
theorem right14_2 {w : World} {i : It} (hb : ItB i) (hk : i.kind = 2) : Calls Tryz.prog 85 #[.agg (itC i).toArray] w (RtPost i w) := by
  have e1 : (i.kind == 1) = false := beq_eq_false_iff_ne.2 (by omega)
  have e2 : (i.kind == 2) = true := beq_iff_eq.2 hk
  obtain ⟨b1, h1⟩ : ∃ q, q = inB i.snap 0 1073741824 := ⟨_, rfl⟩
  obtain ⟨b2, h2⟩ : ∃ q : Bool, q = inB i.unit 0 511 := ⟨_, rfl⟩
  obtain ⟨b3, h3⟩ : ∃ q : Bool, q = sliceB i.sl := ⟨_, rfl⟩
  obtain ⟨b4, h4⟩ : ∃ q : Bool, q = decide (i.key = zKey) := ⟨_, rfl⟩
  obtain ⟨b5, h5⟩ : ∃ q : Bool, q = decide (i.pl = zPl) := ⟨_, rfl⟩
  have HR0 := Lib.hid (show rightR i = (b1 && b2 && b3 && b4 && b5) by unfold rightR; rw [if_neg (by omega), if_pos hk, h1, h2, h3, h4, h5])
  have fq := fun w => key_eql i.key zKey w
  have fp := fun w => pl_eql hb.2.1 zPl_B w
  rw [← h4] at fq
  rw [← h5] at fp
  have HB1 := Lib.hid h1
  have HB2 := Lib.hid h2
  have HB3 := Lib.hid h3
  clear hb hk h1 h2 h3 h4 h5
  cases b1
  · skip
    go_enter Tryz.func85, Tryz.ntmps85
    go_upto_region 1 with (first
      | ((with_reducible show wpList _ _ _ (_ :: _) _ _); refine wpl_box rfl 56 (.tmp 0) (by rfl) (itC i).toArray (by rfl) ?_; intro w1 hk hg hz; have K1 := Lib.hid hk; have L1 := Lib.hid (bl_n (Below.refl _ w) hg); clear hk hg hz; simp only [Act.put, List.setIfInBounds_toArray, List.set_cons_zero, List.set_cons_succ]))
    have k0 := itC_cell K1.out (j := 0) (v := .int .u8 i.kind) rfl
    have sn := itC_cell K1.out (it_snap i)
    have un := itC_cell K1.out (it_unit i)
    have RP := Lib.hid (K1.out.part 33 (plC i.pl) (it_pl i))
    have RS := Lib.hid (K1.out.part 39 (slC i.sl) (it_sl i))
    have RK := Lib.hid (K1.out.part 1 (keyL i.key) (it_key i))
    go_wp2_with (first
      | (have _q := T1.out; clear _q; go_at_call 113; refine (within14 HB2.out _).mono ?_; rintro e wX ⟨rfl, rfl⟩)
      | (go_at_call 113; refine (within14 HB1.out _).mono ?_; rintro e wX ⟨rfl, rfl⟩; have T1 := Lib.hid trivial)
      | ((with_reducible show wpList _ _ _ (_ :: _) _ _); refine wpl_loadG (by rfl) 54 (.tmp 37) (by rfl) w.heap.size 39 (by rfl) (slC i.sl) _ RS.out Tryz.underlying54 rfl (slC_info _) ?_; simp only [Act.put, List.setIfInBounds_toArray, List.set_cons_zero, List.set_cons_succ])
      | (go_at_call 114; refine (slice14 i.sl).mono ?_; rintro e w2 ⟨rfl, hb⟩; rewrite [← HB3.out]; have L2 := Lib.hid (below_chain L1.out hb); have K2 := Lib.hid (K1.out.below hb K1.out.lt); have RK2 := Lib.hid (K2.out.part 1 (keyL i.key) (it_key i)); have RP2 := Lib.hid (K2.out.part 33 (plC i.pl) (it_pl i)); clear hb)
      | ((with_reducible show wpList _ _ _ (_ :: _) _ _); refine wpl_loadG (by rfl) 50 (.tmp 42) (by rfl) w.heap.size 1 (by rfl) (keyL i.key) _ RK2.out Tryz.underlying50 rfl (keyL_info _) ?_; simp only [Act.put, List.setIfInBounds_toArray, List.set_cons_zero, List.set_cons_succ])
      | ((with_reducible show wpList _ _ _ (_ :: _) _ _); refine wpl_mkG (by rfl) 50 #[] (by rfl) [] (by rfl) _ built_zK ?_; simp only [Act.put, List.setIfInBounds_toArray, List.set_cons_zero, List.set_cons_succ])
      | ((with_reducible show wpList _ _ _ (_ :: _) _ _); refine wpl_loadG (by rfl) 52 (.tmp 48) (by rfl) w.heap.size 33 (by rfl) (plC i.pl) _ RP2.out Tryz.underlying52 rfl (plC_infoB _) ?_; simp only [Act.put, List.setIfInBounds_toArray, List.set_cons_zero, List.set_cons_succ])
      | ((with_reducible show wpList _ _ _ (_ :: _) _ _); refine wpl_mkG (by rfl) 52 #[] (by rfl) [] (by rfl) _ built_zP ?_; simp only [Act.put, List.setIfInBounds_toArray, List.set_cons_zero, List.set_cons_succ]))
    go_ret
    exact ⟨by rw [HR0.out]; rfl, L1.out⟩
  · cases b2
    · skip
      go_enter Tryz.func85, Tryz.ntmps85
      go_upto_region 1 with (first
        | ((with_reducible show wpList _ _ _ (_ :: _) _ _); refine wpl_box rfl 56 (.tmp 0) (by rfl) (itC i).toArray (by rfl) ?_; intro w1 hk hg hz; have K1 := Lib.hid hk; have L1 := Lib.hid (bl_n (Below.refl _ w) hg); clear hk hg hz; simp only [Act.put, List.setIfInBounds_toArray, List.set_cons_zero, List.set_cons_succ]))
      have k0 := itC_cell K1.out (j := 0) (v := .int .u8 i.kind) rfl
      have sn := itC_cell K1.out (it_snap i)
      have un := itC_cell K1.out (it_unit i)
      have RP := Lib.hid (K1.out.part 33 (plC i.pl) (it_pl i))
      have RS := Lib.hid (K1.out.part 39 (slC i.sl) (it_sl i))
      have RK := Lib.hid (K1.out.part 1 (keyL i.key) (it_key i))
      go_wp2_with (first
        | (have _q := T1.out; clear _q; go_at_call 113; refine (within14 HB2.out _).mono ?_; rintro e wX ⟨rfl, rfl⟩)
        | (go_at_call 113; refine (within14 HB1.out _).mono ?_; rintro e wX ⟨rfl, rfl⟩; have T1 := Lib.hid trivial)
        | ((with_reducible show wpList _ _ _ (_ :: _) _ _); refine wpl_loadG (by rfl) 54 (.tmp 37) (by rfl) w.heap.size 39 (by rfl) (slC i.sl) _ RS.out Tryz.underlying54 rfl (slC_info _) ?_; simp only [Act.put, List.setIfInBounds_toArray, List.set_cons_zero, List.set_cons_succ])
        | (go_at_call 114; refine (slice14 i.sl).mono ?_; rintro e w2 ⟨rfl, hb⟩; rewrite [← HB3.out]; have L2 := Lib.hid (below_chain L1.out hb); have K2 := Lib.hid (K1.out.below hb K1.out.lt); have RK2 := Lib.hid (K2.out.part 1 (keyL i.key) (it_key i)); have RP2 := Lib.hid (K2.out.part 33 (plC i.pl) (it_pl i)); clear hb)
        | ((with_reducible show wpList _ _ _ (_ :: _) _ _); refine wpl_loadG (by rfl) 50 (.tmp 42) (by rfl) w.heap.size 1 (by rfl) (keyL i.key) _ RK2.out Tryz.underlying50 rfl (keyL_info _) ?_; simp only [Act.put, List.setIfInBounds_toArray, List.set_cons_zero, List.set_cons_succ])
        | ((with_reducible show wpList _ _ _ (_ :: _) _ _); refine wpl_mkG (by rfl) 50 #[] (by rfl) [] (by rfl) _ built_zK ?_; simp only [Act.put, List.setIfInBounds_toArray, List.set_cons_zero, List.set_cons_succ])
        | ((with_reducible show wpList _ _ _ (_ :: _) _ _); refine wpl_loadG (by rfl) 52 (.tmp 48) (by rfl) w.heap.size 33 (by rfl) (plC i.pl) _ RP2.out Tryz.underlying52 rfl (plC_infoB _) ?_; simp only [Act.put, List.setIfInBounds_toArray, List.set_cons_zero, List.set_cons_succ])
        | ((with_reducible show wpList _ _ _ (_ :: _) _ _); refine wpl_mkG (by rfl) 52 #[] (by rfl) [] (by rfl) _ built_zP ?_; simp only [Act.put, List.setIfInBounds_toArray, List.set_cons_zero, List.set_cons_succ]))
      go_ret
      exact ⟨by rw [HR0.out]; rfl, L1.out⟩
    · cases b3
      · skip
        go_enter Tryz.func85, Tryz.ntmps85
        go_upto_region 1 with (first
          | ((with_reducible show wpList _ _ _ (_ :: _) _ _); refine wpl_box rfl 56 (.tmp 0) (by rfl) (itC i).toArray (by rfl) ?_; intro w1 hk hg hz; have K1 := Lib.hid hk; have L1 := Lib.hid (bl_n (Below.refl _ w) hg); clear hk hg hz; simp only [Act.put, List.setIfInBounds_toArray, List.set_cons_zero, List.set_cons_succ]))
        have k0 := itC_cell K1.out (j := 0) (v := .int .u8 i.kind) rfl
        have sn := itC_cell K1.out (it_snap i)
        have un := itC_cell K1.out (it_unit i)
        have RP := Lib.hid (K1.out.part 33 (plC i.pl) (it_pl i))
        have RS := Lib.hid (K1.out.part 39 (slC i.sl) (it_sl i))
        have RK := Lib.hid (K1.out.part 1 (keyL i.key) (it_key i))
        go_wp2_with (first
          | (have _q := T1.out; clear _q; go_at_call 113; refine (within14 HB2.out _).mono ?_; rintro e wX ⟨rfl, rfl⟩)
          | (go_at_call 113; refine (within14 HB1.out _).mono ?_; rintro e wX ⟨rfl, rfl⟩; have T1 := Lib.hid trivial)
          | ((with_reducible show wpList _ _ _ (_ :: _) _ _); refine wpl_loadG (by rfl) 54 (.tmp 37) (by rfl) w.heap.size 39 (by rfl) (slC i.sl) _ RS.out Tryz.underlying54 rfl (slC_info _) ?_; simp only [Act.put, List.setIfInBounds_toArray, List.set_cons_zero, List.set_cons_succ])
          | (go_at_call 114; refine (slice14 i.sl).mono ?_; rintro e w2 ⟨rfl, hb⟩; rewrite [← HB3.out]; have L2 := Lib.hid (below_chain L1.out hb); have K2 := Lib.hid (K1.out.below hb K1.out.lt); have RK2 := Lib.hid (K2.out.part 1 (keyL i.key) (it_key i)); have RP2 := Lib.hid (K2.out.part 33 (plC i.pl) (it_pl i)); clear hb)
          | ((with_reducible show wpList _ _ _ (_ :: _) _ _); refine wpl_loadG (by rfl) 50 (.tmp 42) (by rfl) w.heap.size 1 (by rfl) (keyL i.key) _ RK2.out Tryz.underlying50 rfl (keyL_info _) ?_; simp only [Act.put, List.setIfInBounds_toArray, List.set_cons_zero, List.set_cons_succ])
          | ((with_reducible show wpList _ _ _ (_ :: _) _ _); refine wpl_mkG (by rfl) 50 #[] (by rfl) [] (by rfl) _ built_zK ?_; simp only [Act.put, List.setIfInBounds_toArray, List.set_cons_zero, List.set_cons_succ])
          | ((with_reducible show wpList _ _ _ (_ :: _) _ _); refine wpl_loadG (by rfl) 52 (.tmp 48) (by rfl) w.heap.size 33 (by rfl) (plC i.pl) _ RP2.out Tryz.underlying52 rfl (plC_infoB _) ?_; simp only [Act.put, List.setIfInBounds_toArray, List.set_cons_zero, List.set_cons_succ])
          | ((with_reducible show wpList _ _ _ (_ :: _) _ _); refine wpl_mkG (by rfl) 52 #[] (by rfl) [] (by rfl) _ built_zP ?_; simp only [Act.put, List.setIfInBounds_toArray, List.set_cons_zero, List.set_cons_succ]))
        go_ret
        exact ⟨by rw [HR0.out]; rfl, L2.out⟩
      · cases b4
        · skip
          go_enter Tryz.func85, Tryz.ntmps85
          go_upto_region 1 with (first
            | ((with_reducible show wpList _ _ _ (_ :: _) _ _); refine wpl_box rfl 56 (.tmp 0) (by rfl) (itC i).toArray (by rfl) ?_; intro w1 hk hg hz; have K1 := Lib.hid hk; have L1 := Lib.hid (bl_n (Below.refl _ w) hg); clear hk hg hz; simp only [Act.put, List.setIfInBounds_toArray, List.set_cons_zero, List.set_cons_succ]))
          have k0 := itC_cell K1.out (j := 0) (v := .int .u8 i.kind) rfl
          have sn := itC_cell K1.out (it_snap i)
          have un := itC_cell K1.out (it_unit i)
          have RP := Lib.hid (K1.out.part 33 (plC i.pl) (it_pl i))
          have RS := Lib.hid (K1.out.part 39 (slC i.sl) (it_sl i))
          have RK := Lib.hid (K1.out.part 1 (keyL i.key) (it_key i))
          go_wp2_with (first
            | (have _q := T1.out; clear _q; go_at_call 113; refine (within14 HB2.out _).mono ?_; rintro e wX ⟨rfl, rfl⟩)
            | (go_at_call 113; refine (within14 HB1.out _).mono ?_; rintro e wX ⟨rfl, rfl⟩; have T1 := Lib.hid trivial)
            | ((with_reducible show wpList _ _ _ (_ :: _) _ _); refine wpl_loadG (by rfl) 54 (.tmp 37) (by rfl) w.heap.size 39 (by rfl) (slC i.sl) _ RS.out Tryz.underlying54 rfl (slC_info _) ?_; simp only [Act.put, List.setIfInBounds_toArray, List.set_cons_zero, List.set_cons_succ])
            | (go_at_call 114; refine (slice14 i.sl).mono ?_; rintro e w2 ⟨rfl, hb⟩; rewrite [← HB3.out]; have L2 := Lib.hid (below_chain L1.out hb); have K2 := Lib.hid (K1.out.below hb K1.out.lt); have RK2 := Lib.hid (K2.out.part 1 (keyL i.key) (it_key i)); have RP2 := Lib.hid (K2.out.part 33 (plC i.pl) (it_pl i)); clear hb)
            | ((with_reducible show wpList _ _ _ (_ :: _) _ _); refine wpl_loadG (by rfl) 50 (.tmp 42) (by rfl) w.heap.size 1 (by rfl) (keyL i.key) _ RK2.out Tryz.underlying50 rfl (keyL_info _) ?_; simp only [Act.put, List.setIfInBounds_toArray, List.set_cons_zero, List.set_cons_succ])
            | ((with_reducible show wpList _ _ _ (_ :: _) _ _); refine wpl_mkG (by rfl) 50 #[] (by rfl) [] (by rfl) _ built_zK ?_; simp only [Act.put, List.setIfInBounds_toArray, List.set_cons_zero, List.set_cons_succ])
            | ((with_reducible show wpList _ _ _ (_ :: _) _ _); refine wpl_loadG (by rfl) 52 (.tmp 48) (by rfl) w.heap.size 33 (by rfl) (plC i.pl) _ RP2.out Tryz.underlying52 rfl (plC_infoB _) ?_; simp only [Act.put, List.setIfInBounds_toArray, List.set_cons_zero, List.set_cons_succ])
            | ((with_reducible show wpList _ _ _ (_ :: _) _ _); refine wpl_mkG (by rfl) 52 #[] (by rfl) [] (by rfl) _ built_zP ?_; simp only [Act.put, List.setIfInBounds_toArray, List.set_cons_zero, List.set_cons_succ]))
          go_ret
          exact ⟨by rw [HR0.out]; rfl, L2.out⟩
        · cases b5
          · skip
            go_enter Tryz.func85, Tryz.ntmps85
            go_upto_region 1 with (first
              | ((with_reducible show wpList _ _ _ (_ :: _) _ _); refine wpl_box rfl 56 (.tmp 0) (by rfl) (itC i).toArray (by rfl) ?_; intro w1 hk hg hz; have K1 := Lib.hid hk; have L1 := Lib.hid (bl_n (Below.refl _ w) hg); clear hk hg hz; simp only [Act.put, List.setIfInBounds_toArray, List.set_cons_zero, List.set_cons_succ]))
            have k0 := itC_cell K1.out (j := 0) (v := .int .u8 i.kind) rfl
            have sn := itC_cell K1.out (it_snap i)
            have un := itC_cell K1.out (it_unit i)
            have RP := Lib.hid (K1.out.part 33 (plC i.pl) (it_pl i))
            have RS := Lib.hid (K1.out.part 39 (slC i.sl) (it_sl i))
            have RK := Lib.hid (K1.out.part 1 (keyL i.key) (it_key i))
            go_wp2_with (first
              | (have _q := T1.out; clear _q; go_at_call 113; refine (within14 HB2.out _).mono ?_; rintro e wX ⟨rfl, rfl⟩)
              | (go_at_call 113; refine (within14 HB1.out _).mono ?_; rintro e wX ⟨rfl, rfl⟩; have T1 := Lib.hid trivial)
              | ((with_reducible show wpList _ _ _ (_ :: _) _ _); refine wpl_loadG (by rfl) 54 (.tmp 37) (by rfl) w.heap.size 39 (by rfl) (slC i.sl) _ RS.out Tryz.underlying54 rfl (slC_info _) ?_; simp only [Act.put, List.setIfInBounds_toArray, List.set_cons_zero, List.set_cons_succ])
              | (go_at_call 114; refine (slice14 i.sl).mono ?_; rintro e w2 ⟨rfl, hb⟩; rewrite [← HB3.out]; have L2 := Lib.hid (below_chain L1.out hb); have K2 := Lib.hid (K1.out.below hb K1.out.lt); have RK2 := Lib.hid (K2.out.part 1 (keyL i.key) (it_key i)); have RP2 := Lib.hid (K2.out.part 33 (plC i.pl) (it_pl i)); clear hb)
              | ((with_reducible show wpList _ _ _ (_ :: _) _ _); refine wpl_loadG (by rfl) 50 (.tmp 42) (by rfl) w.heap.size 1 (by rfl) (keyL i.key) _ RK2.out Tryz.underlying50 rfl (keyL_info _) ?_; simp only [Act.put, List.setIfInBounds_toArray, List.set_cons_zero, List.set_cons_succ])
              | ((with_reducible show wpList _ _ _ (_ :: _) _ _); refine wpl_mkG (by rfl) 50 #[] (by rfl) [] (by rfl) _ built_zK ?_; simp only [Act.put, List.setIfInBounds_toArray, List.set_cons_zero, List.set_cons_succ])
              | ((with_reducible show wpList _ _ _ (_ :: _) _ _); refine wpl_loadG (by rfl) 52 (.tmp 48) (by rfl) w.heap.size 33 (by rfl) (plC i.pl) _ RP2.out Tryz.underlying52 rfl (plC_infoB _) ?_; simp only [Act.put, List.setIfInBounds_toArray, List.set_cons_zero, List.set_cons_succ])
              | ((with_reducible show wpList _ _ _ (_ :: _) _ _); refine wpl_mkG (by rfl) 52 #[] (by rfl) [] (by rfl) _ built_zP ?_; simp only [Act.put, List.setIfInBounds_toArray, List.set_cons_zero, List.set_cons_succ]))
            go_ret
            exact ⟨by rw [HR0.out]; rfl, L2.out⟩
          · skip
            go_enter Tryz.func85, Tryz.ntmps85
            go_upto_region 1 with (first
              | ((with_reducible show wpList _ _ _ (_ :: _) _ _); refine wpl_box rfl 56 (.tmp 0) (by rfl) (itC i).toArray (by rfl) ?_; intro w1 hk hg hz; have K1 := Lib.hid hk; have L1 := Lib.hid (bl_n (Below.refl _ w) hg); clear hk hg hz; simp only [Act.put, List.setIfInBounds_toArray, List.set_cons_zero, List.set_cons_succ]))
            have k0 := itC_cell K1.out (j := 0) (v := .int .u8 i.kind) rfl
            have sn := itC_cell K1.out (it_snap i)
            have un := itC_cell K1.out (it_unit i)
            have RP := Lib.hid (K1.out.part 33 (plC i.pl) (it_pl i))
            have RS := Lib.hid (K1.out.part 39 (slC i.sl) (it_sl i))
            have RK := Lib.hid (K1.out.part 1 (keyL i.key) (it_key i))
            go_wp2_with (first
              | (have _q := T1.out; clear _q; go_at_call 113; refine (within14 HB2.out _).mono ?_; rintro e wX ⟨rfl, rfl⟩)
              | (go_at_call 113; refine (within14 HB1.out _).mono ?_; rintro e wX ⟨rfl, rfl⟩; have T1 := Lib.hid trivial)
              | ((with_reducible show wpList _ _ _ (_ :: _) _ _); refine wpl_loadG (by rfl) 54 (.tmp 37) (by rfl) w.heap.size 39 (by rfl) (slC i.sl) _ RS.out Tryz.underlying54 rfl (slC_info _) ?_; simp only [Act.put, List.setIfInBounds_toArray, List.set_cons_zero, List.set_cons_succ])
              | (go_at_call 114; refine (slice14 i.sl).mono ?_; rintro e w2 ⟨rfl, hb⟩; rewrite [← HB3.out]; have L2 := Lib.hid (below_chain L1.out hb); have K2 := Lib.hid (K1.out.below hb K1.out.lt); have RK2 := Lib.hid (K2.out.part 1 (keyL i.key) (it_key i)); have RP2 := Lib.hid (K2.out.part 33 (plC i.pl) (it_pl i)); clear hb)
              | ((with_reducible show wpList _ _ _ (_ :: _) _ _); refine wpl_loadG (by rfl) 50 (.tmp 42) (by rfl) w.heap.size 1 (by rfl) (keyL i.key) _ RK2.out Tryz.underlying50 rfl (keyL_info _) ?_; simp only [Act.put, List.setIfInBounds_toArray, List.set_cons_zero, List.set_cons_succ])
              | ((with_reducible show wpList _ _ _ (_ :: _) _ _); refine wpl_mkG (by rfl) 50 #[] (by rfl) [] (by rfl) _ built_zK ?_; simp only [Act.put, List.setIfInBounds_toArray, List.set_cons_zero, List.set_cons_succ])
              | ((with_reducible show wpList _ _ _ (_ :: _) _ _); refine wpl_loadG (by rfl) 52 (.tmp 48) (by rfl) w.heap.size 33 (by rfl) (plC i.pl) _ RP2.out Tryz.underlying52 rfl (plC_infoB _) ?_; simp only [Act.put, List.setIfInBounds_toArray, List.set_cons_zero, List.set_cons_succ])
              | ((with_reducible show wpList _ _ _ (_ :: _) _ _); refine wpl_mkG (by rfl) 52 #[] (by rfl) [] (by rfl) _ built_zP ?_; simp only [Act.put, List.setIfInBounds_toArray, List.set_cons_zero, List.set_cons_succ]))
            go_ret
            exact ⟨by rw [HR0.out]; rfl, L2.out⟩
set_option maxRecDepth 100000 in
set_option maxHeartbeats 2000000 in
theorem right14_3 {w : World} {i : It} (hb : ItB i) (hk : i.kind = 3) : Calls Tryz.prog 85 #[.agg (itC i).toArray] w (RtPost i w) := by
  have e1 : (i.kind == 1) = false := beq_eq_false_iff_ne.2 (by omega)
  have e2 : (i.kind == 2) = false := beq_eq_false_iff_ne.2 (by omega)
  have e3 : (i.kind == 3) = true := beq_iff_eq.2 hk
  obtain ⟨b1, h1⟩ : ∃ q, q = inB i.snap 1 1073741824 := ⟨_, rfl⟩
  obtain ⟨b2, h2⟩ : ∃ q : Bool, q = decide (i.unit = 0) := ⟨_, rfl⟩
  obtain ⟨b3, h3⟩ : ∃ q : Bool, q = decide (i.sl = zSl) := ⟨_, rfl⟩
  obtain ⟨b4, h4⟩ : ∃ q : Bool, q = decide (i.key = zKey) := ⟨_, rfl⟩
  obtain ⟨b5, h5⟩ : ∃ q : Bool, q = decide (i.pl = zPl) := ⟨_, rfl⟩
  have HR0 := Lib.hid (show rightR i = (b1 && b2 && b3 && b4 && b5) by unfold rightR; rw [if_neg (by omega), if_neg (by omega), if_pos hk, h1, h2, h3, h4, h5])
  have g2 : (i.unit == 0) = b2 := by rw [h2]; rfl
  have fs := fun w => sl_eql hb.2.2.2.2 zSl_B w
  have fq := fun w => key_eql i.key zKey w
  have fp := fun w => pl_eql hb.2.1 zPl_B w
  rw [← h3] at fs
  rw [← h4] at fq
  rw [← h5] at fp
  have HB1 := Lib.hid h1
  clear hb hk h1 h2 h3 h4 h5
  cases b1
  · skip
    go_enter Tryz.func85, Tryz.ntmps85
    go_upto_region 1 with (first
      | ((with_reducible show wpList _ _ _ (_ :: _) _ _); refine wpl_box rfl 56 (.tmp 0) (by rfl) (itC i).toArray (by rfl) ?_; intro w1 hk hg hz; have K1 := Lib.hid hk; have L1 := Lib.hid (bl_n (Below.refl _ w) hg); clear hk hg hz; simp only [Act.put, List.setIfInBounds_toArray, List.set_cons_zero, List.set_cons_succ]))
    have k0 := itC_cell K1.out (j := 0) (v := .int .u8 i.kind) rfl
    have sn := itC_cell K1.out (it_snap i)
    have un := itC_cell K1.out (it_unit i)
    have RP := Lib.hid (K1.out.part 33 (plC i.pl) (it_pl i))
    have RS := Lib.hid (K1.out.part 39 (slC i.sl) (it_sl i))
    have RK := Lib.hid (K1.out.part 1 (keyL i.key) (it_key i))
    go_wp2_with (first
      | (go_at_call 113; refine (within14 HB1.out _).mono ?_; rintro e wX ⟨rfl, rfl⟩)
      | ((with_reducible show wpList _ _ _ (_ :: _) _ _); refine wpl_loadG (by rfl) 54 (.tmp 64) (by rfl) w.heap.size 39 (by rfl) (slC i.sl) _ RS.out Tryz.underlying54 rfl (slC_info _) ?_; simp only [Act.put, List.setIfInBounds_toArray, List.set_cons_zero, List.set_cons_succ])
      | ((with_reducible show wpList _ _ _ (_ :: _) _ _); refine wpl_mkG (by rfl) 54 #[] (by rfl) [] (by rfl) _ built_zSl ?_; simp only [Act.put, List.setIfInBounds_toArray, List.set_cons_zero, List.set_cons_succ])
      | ((with_reducible show wpList _ _ _ (_ :: _) _ _); refine wpl_loadG (by rfl) 50 (.tmp 70) (by rfl) w.heap.size 1 (by rfl) (keyL i.key) _ RK.out Tryz.underlying50 rfl (keyL_info _) ?_; simp only [Act.put, List.setIfInBounds_toArray, List.set_cons_zero, List.set_cons_succ])
      | ((with_reducible show wpList _ _ _ (_ :: _) _ _); refine wpl_mkG (by rfl) 50 #[] (by rfl) [] (by rfl) _ built_zK ?_; simp only [Act.put, List.setIfInBounds_toArray, List.set_cons_zero, List.set_cons_succ])
      | ((with_reducible show wpList _ _ _ (_ :: _) _ _); refine wpl_loadG (by rfl) 52 (.tmp 76) (by rfl) w.heap.size 33 (by rfl) (plC i.pl) _ RP.out Tryz.underlying52 rfl (plC_infoB _) ?_; simp only [Act.put, List.setIfInBounds_toArray, List.set_cons_zero, List.set_cons_succ])
      | ((with_reducible show wpList _ _ _ (_ :: _) _ _); refine wpl_mkG (by rfl) 52 #[] (by rfl) [] (by rfl) _ built_zP ?_; simp only [Act.put, List.setIfInBounds_toArray, List.set_cons_zero, List.set_cons_succ]))
    go_ret
    exact ⟨by rw [HR0.out]; rfl, L1.out⟩
  · cases b2
    · skip
      go_enter Tryz.func85, Tryz.ntmps85
      go_upto_region 1 with (first
        | ((with_reducible show wpList _ _ _ (_ :: _) _ _); refine wpl_box rfl 56 (.tmp 0) (by rfl) (itC i).toArray (by rfl) ?_; intro w1 hk hg hz; have K1 := Lib.hid hk; have L1 := Lib.hid (bl_n (Below.refl _ w) hg); clear hk hg hz; simp only [Act.put, List.setIfInBounds_toArray, List.set_cons_zero, List.set_cons_succ]))
      have k0 := itC_cell K1.out (j := 0) (v := .int .u8 i.kind) rfl
      have sn := itC_cell K1.out (it_snap i)
      have un := itC_cell K1.out (it_unit i)
      have RP := Lib.hid (K1.out.part 33 (plC i.pl) (it_pl i))
      have RS := Lib.hid (K1.out.part 39 (slC i.sl) (it_sl i))
      have RK := Lib.hid (K1.out.part 1 (keyL i.key) (it_key i))
      go_wp2_with (first
        | (go_at_call 113; refine (within14 HB1.out _).mono ?_; rintro e wX ⟨rfl, rfl⟩)
        | ((with_reducible show wpList _ _ _ (_ :: _) _ _); refine wpl_loadG (by rfl) 54 (.tmp 64) (by rfl) w.heap.size 39 (by rfl) (slC i.sl) _ RS.out Tryz.underlying54 rfl (slC_info _) ?_; simp only [Act.put, List.setIfInBounds_toArray, List.set_cons_zero, List.set_cons_succ])
        | ((with_reducible show wpList _ _ _ (_ :: _) _ _); refine wpl_mkG (by rfl) 54 #[] (by rfl) [] (by rfl) _ built_zSl ?_; simp only [Act.put, List.setIfInBounds_toArray, List.set_cons_zero, List.set_cons_succ])
        | ((with_reducible show wpList _ _ _ (_ :: _) _ _); refine wpl_loadG (by rfl) 50 (.tmp 70) (by rfl) w.heap.size 1 (by rfl) (keyL i.key) _ RK.out Tryz.underlying50 rfl (keyL_info _) ?_; simp only [Act.put, List.setIfInBounds_toArray, List.set_cons_zero, List.set_cons_succ])
        | ((with_reducible show wpList _ _ _ (_ :: _) _ _); refine wpl_mkG (by rfl) 50 #[] (by rfl) [] (by rfl) _ built_zK ?_; simp only [Act.put, List.setIfInBounds_toArray, List.set_cons_zero, List.set_cons_succ])
        | ((with_reducible show wpList _ _ _ (_ :: _) _ _); refine wpl_loadG (by rfl) 52 (.tmp 76) (by rfl) w.heap.size 33 (by rfl) (plC i.pl) _ RP.out Tryz.underlying52 rfl (plC_infoB _) ?_; simp only [Act.put, List.setIfInBounds_toArray, List.set_cons_zero, List.set_cons_succ])
        | ((with_reducible show wpList _ _ _ (_ :: _) _ _); refine wpl_mkG (by rfl) 52 #[] (by rfl) [] (by rfl) _ built_zP ?_; simp only [Act.put, List.setIfInBounds_toArray, List.set_cons_zero, List.set_cons_succ]))
      go_ret
      exact ⟨by rw [HR0.out]; rfl, L1.out⟩
    · cases b3
      · skip
        go_enter Tryz.func85, Tryz.ntmps85
        go_upto_region 1 with (first
          | ((with_reducible show wpList _ _ _ (_ :: _) _ _); refine wpl_box rfl 56 (.tmp 0) (by rfl) (itC i).toArray (by rfl) ?_; intro w1 hk hg hz; have K1 := Lib.hid hk; have L1 := Lib.hid (bl_n (Below.refl _ w) hg); clear hk hg hz; simp only [Act.put, List.setIfInBounds_toArray, List.set_cons_zero, List.set_cons_succ]))
        have k0 := itC_cell K1.out (j := 0) (v := .int .u8 i.kind) rfl
        have sn := itC_cell K1.out (it_snap i)
        have un := itC_cell K1.out (it_unit i)
        have RP := Lib.hid (K1.out.part 33 (plC i.pl) (it_pl i))
        have RS := Lib.hid (K1.out.part 39 (slC i.sl) (it_sl i))
        have RK := Lib.hid (K1.out.part 1 (keyL i.key) (it_key i))
        go_wp2_with (first
          | (go_at_call 113; refine (within14 HB1.out _).mono ?_; rintro e wX ⟨rfl, rfl⟩)
          | ((with_reducible show wpList _ _ _ (_ :: _) _ _); refine wpl_loadG (by rfl) 54 (.tmp 64) (by rfl) w.heap.size 39 (by rfl) (slC i.sl) _ RS.out Tryz.underlying54 rfl (slC_info _) ?_; simp only [Act.put, List.setIfInBounds_toArray, List.set_cons_zero, List.set_cons_succ])
          | ((with_reducible show wpList _ _ _ (_ :: _) _ _); refine wpl_mkG (by rfl) 54 #[] (by rfl) [] (by rfl) _ built_zSl ?_; simp only [Act.put, List.setIfInBounds_toArray, List.set_cons_zero, List.set_cons_succ])
          | ((with_reducible show wpList _ _ _ (_ :: _) _ _); refine wpl_loadG (by rfl) 50 (.tmp 70) (by rfl) w.heap.size 1 (by rfl) (keyL i.key) _ RK.out Tryz.underlying50 rfl (keyL_info _) ?_; simp only [Act.put, List.setIfInBounds_toArray, List.set_cons_zero, List.set_cons_succ])
          | ((with_reducible show wpList _ _ _ (_ :: _) _ _); refine wpl_mkG (by rfl) 50 #[] (by rfl) [] (by rfl) _ built_zK ?_; simp only [Act.put, List.setIfInBounds_toArray, List.set_cons_zero, List.set_cons_succ])
          | ((with_reducible show wpList _ _ _ (_ :: _) _ _); refine wpl_loadG (by rfl) 52 (.tmp 76) (by rfl) w.heap.size 33 (by rfl) (plC i.pl) _ RP.out Tryz.underlying52 rfl (plC_infoB _) ?_; simp only [Act.put, List.setIfInBounds_toArray, List.set_cons_zero, List.set_cons_succ])
          | ((with_reducible show wpList _ _ _ (_ :: _) _ _); refine wpl_mkG (by rfl) 52 #[] (by rfl) [] (by rfl) _ built_zP ?_; simp only [Act.put, List.setIfInBounds_toArray, List.set_cons_zero, List.set_cons_succ]))
        go_ret
        exact ⟨by rw [HR0.out]; rfl, L1.out⟩
      · cases b4
        · skip
          go_enter Tryz.func85, Tryz.ntmps85
          go_upto_region 1 with (first
            | ((with_reducible show wpList _ _ _ (_ :: _) _ _); refine wpl_box rfl 56 (.tmp 0) (by rfl) (itC i).toArray (by rfl) ?_; intro w1 hk hg hz; have K1 := Lib.hid hk; have L1 := Lib.hid (bl_n (Below.refl _ w) hg); clear hk hg hz; simp only [Act.put, List.setIfInBounds_toArray, List.set_cons_zero, List.set_cons_succ]))
          have k0 := itC_cell K1.out (j := 0) (v := .int .u8 i.kind) rfl
          have sn := itC_cell K1.out (it_snap i)
          have un := itC_cell K1.out (it_unit i)
          have RP := Lib.hid (K1.out.part 33 (plC i.pl) (it_pl i))
          have RS := Lib.hid (K1.out.part 39 (slC i.sl) (it_sl i))
          have RK := Lib.hid (K1.out.part 1 (keyL i.key) (it_key i))
          go_wp2_with (first
            | (go_at_call 113; refine (within14 HB1.out _).mono ?_; rintro e wX ⟨rfl, rfl⟩)
            | ((with_reducible show wpList _ _ _ (_ :: _) _ _); refine wpl_loadG (by rfl) 54 (.tmp 64) (by rfl) w.heap.size 39 (by rfl) (slC i.sl) _ RS.out Tryz.underlying54 rfl (slC_info _) ?_; simp only [Act.put, List.setIfInBounds_toArray, List.set_cons_zero, List.set_cons_succ])
            | ((with_reducible show wpList _ _ _ (_ :: _) _ _); refine wpl_mkG (by rfl) 54 #[] (by rfl) [] (by rfl) _ built_zSl ?_; simp only [Act.put, List.setIfInBounds_toArray, List.set_cons_zero, List.set_cons_succ])
            | ((with_reducible show wpList _ _ _ (_ :: _) _ _); refine wpl_loadG (by rfl) 50 (.tmp 70) (by rfl) w.heap.size 1 (by rfl) (keyL i.key) _ RK.out Tryz.underlying50 rfl (keyL_info _) ?_; simp only [Act.put, List.setIfInBounds_toArray, List.set_cons_zero, List.set_cons_succ])
            | ((with_reducible show wpList _ _ _ (_ :: _) _ _); refine wpl_mkG (by rfl) 50 #[] (by rfl) [] (by rfl) _ built_zK ?_; simp only [Act.put, List.setIfInBounds_toArray, List.set_cons_zero, List.set_cons_succ])
            | ((with_reducible show wpList _ _ _ (_ :: _) _ _); refine wpl_loadG (by rfl) 52 (.tmp 76) (by rfl) w.heap.size 33 (by rfl) (plC i.pl) _ RP.out Tryz.underlying52 rfl (plC_infoB _) ?_; simp only [Act.put, List.setIfInBounds_toArray, List.set_cons_zero, List.set_cons_succ])
            | ((with_reducible show wpList _ _ _ (_ :: _) _ _); refine wpl_mkG (by rfl) 52 #[] (by rfl) [] (by rfl) _ built_zP ?_; simp only [Act.put, List.setIfInBounds_toArray, List.set_cons_zero, List.set_cons_succ]))
          go_ret
          exact ⟨by rw [HR0.out]; rfl, L1.out⟩
        · cases b5
          · skip
            go_enter Tryz.func85, Tryz.ntmps85
            go_upto_region 1 with (first
              | ((with_reducible show wpList _ _ _ (_ :: _) _ _); refine wpl_box rfl 56 (.tmp 0) (by rfl) (itC i).toArray (by rfl) ?_; intro w1 hk hg hz; have K1 := Lib.hid hk; have L1 := Lib.hid (bl_n (Below.refl _ w) hg); clear hk hg hz; simp only [Act.put, List.setIfInBounds_toArray, List.set_cons_zero, List.set_cons_succ]))
            have k0 := itC_cell K1.out (j := 0) (v := .int .u8 i.kind) rfl
            have sn := itC_cell K1.out (it_snap i)
            have un := itC_cell K1.out (it_unit i)
            have RP := Lib.hid (K1.out.part 33 (plC i.pl) (it_pl i))
            have RS := Lib.hid (K1.out.part 39 (slC i.sl) (it_sl i))
            have RK := Lib.hid (K1.out.part 1 (keyL i.key) (it_key i))
            go_wp2_with (first
              | (go_at_call 113; refine (within14 HB1.out _).mono ?_; rintro e wX ⟨rfl, rfl⟩)
              | ((with_reducible show wpList _ _ _ (_ :: _) _ _); refine wpl_loadG (by rfl) 54 (.tmp 64) (by rfl) w.heap.size 39 (by rfl) (slC i.sl) _ RS.out Tryz.underlying54 rfl (slC_info _) ?_; simp only [Act.put, List.setIfInBounds_toArray, List.set_cons_zero, List.set_cons_succ])
              | ((with_reducible show wpList _ _ _ (_ :: _) _ _); refine wpl_mkG (by rfl) 54 #[] (by rfl) [] (by rfl) _ built_zSl ?_; simp only [Act.put, List.setIfInBounds_toArray, List.set_cons_zero, List.set_cons_succ])
              | ((with_reducible show wpList _ _ _ (_ :: _) _ _); refine wpl_loadG (by rfl) 50 (.tmp 70) (by rfl) w.heap.size 1 (by rfl) (keyL i.key) _ RK.out Tryz.underlying50 rfl (keyL_info _) ?_; simp only [Act.put, List.setIfInBounds_toArray, List.set_cons_zero, List.set_cons_succ])
              | ((with_reducible show wpList _ _ _ (_ :: _) _ _); refine wpl_mkG (by rfl) 50 #[] (by rfl) [] (by rfl) _ built_zK ?_; simp only [Act.put, List.setIfInBounds_toArray, List.set_cons_zero, List.set_cons_succ])
              | ((with_reducible show wpList _ _ _ (_ :: _) _ _); refine wpl_loadG (by rfl) 52 (.tmp 76) (by rfl) w.heap.size 33 (by rfl) (plC i.pl) _ RP.out Tryz.underlying52 rfl (plC_infoB _) ?_; simp only [Act.put, List.setIfInBounds_toArray, List.set_cons_zero, List.set_cons_succ])
              | ((with_reducible show wpList _ _ _ (_ :: _) _ _); refine wpl_mkG (by rfl) 52 #[] (by rfl) [] (by rfl) _ built_zP ?_; simp only [Act.put, List.setIfInBounds_toArray, List.set_cons_zero, List.set_cons_succ]))
            go_ret
            exact ⟨by rw [HR0.out]; rfl, L1.out⟩
          · skip
            go_enter Tryz.func85, Tryz.ntmps85
            go_upto_region 1 with (first
              | ((with_reducible show wpList _ _ _ (_ :: _) _ _); refine wpl_box rfl 56 (.tmp 0) (by rfl) (itC i).toArray (by rfl) ?_; intro w1 hk hg hz; have K1 := Lib.hid hk; have L1 := Lib.hid (bl_n (Below.refl _ w) hg); clear hk hg hz; simp only [Act.put, List.setIfInBounds_toArray, List.set_cons_zero, List.set_cons_succ]))
            have k0 := itC_cell K1.out (j := 0) (v := .int .u8 i.kind) rfl
            have sn := itC_cell K1.out (it_snap i)
            have un := itC_cell K1.out (it_unit i)
            have RP := Lib.hid (K1.out.part 33 (plC i.pl) (it_pl i))
            have RS := Lib.hid (K1.out.part 39 (slC i.sl) (it_sl i))
            have RK := Lib.hid (K1.out.part 1 (keyL i.key) (it_key i))
            go_wp2_with (first
              | (go_at_call 113; refine (within14 HB1.out _).mono ?_; rintro e wX ⟨rfl, rfl⟩)
              | ((with_reducible show wpList _ _ _ (_ :: _) _ _); refine wpl_loadG (by rfl) 54 (.tmp 64) (by rfl) w.heap.size 39 (by rfl) (slC i.sl) _ RS.out Tryz.underlying54 rfl (slC_info _) ?_; simp only [Act.put, List.setIfInBounds_toArray, List.set_cons_zero, List.set_cons_succ])
              | ((with_reducible show wpList _ _ _ (_ :: _) _ _); refine wpl_mkG (by rfl) 54 #[] (by rfl) [] (by rfl) _ built_zSl ?_; simp only [Act.put, List.setIfInBounds_toArray, List.set_cons_zero, List.set_cons_succ])
              | ((with_reducible show wpList _ _ _ (_ :: _) _ _); refine wpl_loadG (by rfl) 50 (.tmp 70) (by rfl) w.heap.size 1 (by rfl) (keyL i.key) _ RK.out Tryz.underlying50 rfl (keyL_info _) ?_; simp only [Act.put, List.setIfInBounds_toArray, List.set_cons_zero, List.set_cons_succ])
              | ((with_reducible show wpList _ _ _ (_ :: _) _ _); refine wpl_mkG (by rfl) 50 #[] (by rfl) [] (by rfl) _ built_zK ?_; simp only [Act.put, List.setIfInBounds_toArray, List.set_cons_zero, List.set_cons_succ])
              | ((with_reducible show wpList _ _ _ (_ :: _) _ _); refine wpl_loadG (by rfl) 52 (.tmp 76) (by rfl) w.heap.size 33 (by rfl) (plC i.pl) _ RP.out Tryz.underlying52 rfl (plC_infoB _) ?_; simp only [Act.put, List.setIfInBounds_toArray, List.set_cons_zero, List.set_cons_succ])
              | ((with_reducible show wpList _ _ _ (_ :: _) _ _); refine wpl_mkG (by rfl) 52 #[] (by rfl) [] (by rfl) _ built_zP ?_; simp only [Act.put, List.setIfInBounds_toArray, List.set_cons_zero, List.set_cons_succ]))
            go_ret
            exact ⟨by rw [HR0.out]; rfl, L1.out⟩
set_option maxRecDepth 100000 in
set_option maxHeartbeats 2000000 in
theorem right14_0 {w : World} {i : It} (h1 : i.kind ≠ 1) (h2 : i.kind ≠ 2) (h3 : i.kind ≠ 3) : Calls Tryz.prog 85 #[.agg (itC i).toArray] w (RtPost i w) := by
  have e1 : (i.kind == 1) = false := beq_eq_false_iff_ne.2 h1
  have e2 : (i.kind == 2) = false := beq_eq_false_iff_ne.2 h2
  have e3 : (i.kind == 3) = false := beq_eq_false_iff_ne.2 h3
  have HR0 := Lib.hid (show rightR i = false by unfold rightR; rw [if_neg h1, if_neg h2, if_neg h3])
  clear h1 h2 h3
  go_enter Tryz.func85, Tryz.ntmps85
  go_upto_region 1 with (first
    | ((with_reducible show wpList _ _ _ (_ :: _) _ _); refine wpl_box rfl 56 (.tmp 0) (by rfl) (itC i).toArray (by rfl) ?_; intro w1 hk hg hz; have K1 := Lib.hid hk; have L1 := Lib.hid (bl_n (Below.refl _ w) hg); clear hk hg hz; simp only [Act.put, List.setIfInBounds_toArray, List.set_cons_zero, List.set_cons_succ]))
  have k0 := itC_cell K1.out (j := 0) (v := .int .u8 i.kind) rfl
  have sn := itC_cell K1.out (it_snap i)
  have un := itC_cell K1.out (it_unit i)
  have RP := Lib.hid (K1.out.part 33 (plC i.pl) (it_pl i))
  have RS := Lib.hid (K1.out.part 39 (slC i.sl) (it_sl i))
  have RK := Lib.hid (K1.out.part 1 (keyL i.key) (it_key i))
  go_wp2_with fail
  go_ret
  exact ⟨by rw [HR0.out]; rfl, L1.out⟩
theorem right14 {w : World} {i : It} (hb : ItB i) : Calls Tryz.prog 85 #[.agg (itC i).toArray] w (RtPost i w) := by
  by_cases h1 : i.kind = 1
  · exact right14_1 hb h1
  · by_cases h2 : i.kind = 2
    · exact right14_2 hb h2
    · by_cases h3 : i.kind = 3
      · exact right14_3 hb h3
      · exact right14_0 h1 h2 h3
/-- Do two items stand for one thing? -/
def alikeB (a b : It) : Bool := decide (a.kind = b.kind) && (if a.kind = 1 then decide (a.key = b.key) else if a.kind = 2 then decide (a.snap = b.snap) && decide (a.unit = b.unit) else decide (a.snap = b.snap))
set_option maxRecDepth 100000 in
set_option maxHeartbeats 2000000 in
theorem alike26 {w : World} (x y : It) : Calls Tryz.prog 86 #[.agg (itC x).toArray, .agg (itC y).toArray] w fun e w' => e = .returned (.bool (alikeB x y)) ∧ Below w.heap.size w w' := by
  by_cases hk : x.kind = y.kind
  · have d0 : (x.kind != y.kind) = false := by simp [hk]
    by_cases h1 : x.kind = 1
    · have e1 : (x.kind == 1) = true := beq_iff_eq.2 h1
      obtain ⟨b, hb⟩ : ∃ q : Bool, q = decide (x.key = y.key) := ⟨_, rfl⟩
      have fq := fun w => key_eql x.key y.key w
      rw [← hb] at fq
      have HR0 := Lib.hid (show alikeB x y = b by unfold alikeB; rw [decide_eq_true hk, if_pos h1, hb]; rfl)
      clear hk h1 hb
      go_enter Tryz.func86, Tryz.ntmps86
      go_upto_region 1 with (first
        | ((with_reducible show wpList _ _ _ (_ :: _) _ _); refine wpl_box rfl 56 (.tmp 0) (by rfl) (itC x).toArray (by rfl) ?_; intro w1 hk hg hz; have K1 := Lib.hid hk; have L1 := Lib.hid (bl_n (Below.refl _ w) hg); clear hk hg hz; simp only [Act.put, List.setIfInBounds_toArray, List.set_cons_zero, List.set_cons_succ])
        | ((with_reducible show wpList _ _ _ (_ :: _) _ _); refine wpl_box rfl 56 (.tmp 1) (by rfl) (itC y).toArray (by rfl) ?_; intro w2 hk hg hz; have K2 := Lib.hid hk; have L2 := Lib.hid (bl_n (Below.refl _ w1) hg); clear hk hg hz; simp only [Act.put, List.setIfInBounds_toArray, List.set_cons_zero, List.set_cons_succ]))
      have KB := Lib.hid (K1.out.below L2.out K1.out.lt)
      have x0 := itC_cell KB.out (j := 0) (v := .int .u8 x.kind) rfl
      have y0 := itC_cell K2.out (j := 0) (v := .int .u8 y.kind) rfl
      have x1 := itC_cell KB.out (it_snap x)
      have y1 := itC_cell K2.out (it_snap y)
      have x2 := itC_cell KB.out (it_unit x)
      have y2 := itC_cell K2.out (it_unit y)
      have RX := Lib.hid (KB.out.part 1 (keyL x.key) (it_key x))
      have RY := Lib.hid (K2.out.part 1 (keyL y.key) (it_key y))
      go_wp2_with (first
        | ((with_reducible show wpList _ _ _ (_ :: _) _ _); refine wpList_load_mid rfl 50 (.tmp 14) (by rfl) w.heap.size 1 (by rfl) (keyL x.key) _ RX.out Tryz.underlying50 rfl (keyL_info _) ?_; simp only [Act.put, List.setIfInBounds_toArray, List.set_cons_zero, List.set_cons_succ])
        | ((with_reducible show wpList _ _ _ (_ :: _) _ _); refine wpList_load_mid rfl 50 (.tmp 16) (by rfl) w1.heap.size 1 (by rfl) (keyL y.key) _ RY.out Tryz.underlying50 rfl (keyL_info _) ?_; simp only [Act.put, List.setIfInBounds_toArray, List.set_cons_zero, List.set_cons_succ]))
      go_ret
      exact ⟨by rw [HR0.out]; rfl, below_chain L1.out L2.out⟩
    · have e1 : (x.kind == 1) = false := beq_eq_false_iff_ne.2 h1
      by_cases h2 : x.kind = 2
      · have e2 : (x.kind == 2) = true := beq_iff_eq.2 h2
        by_cases h3 : x.snap = y.snap
        · have e3 : (x.snap == y.snap) = true := beq_iff_eq.2 h3
          obtain ⟨b, hb⟩ : ∃ q : Bool, q = decide (x.unit = y.unit) := ⟨_, rfl⟩
          have e4 : (x.unit == y.unit) = b := by rw [hb]; rfl
          have HR0 := Lib.hid (show alikeB x y = b by unfold alikeB; rw [decide_eq_true hk, if_neg h1, if_pos h2, decide_eq_true h3, hb]; rfl)
          clear hk h1 h2 h3 hb
          go_enter Tryz.func86, Tryz.ntmps86
          go_upto_region 1 with (first
            | ((with_reducible show wpList _ _ _ (_ :: _) _ _); refine wpl_box rfl 56 (.tmp 0) (by rfl) (itC x).toArray (by rfl) ?_; intro w1 hk hg hz; have K1 := Lib.hid hk; have L1 := Lib.hid (bl_n (Below.refl _ w) hg); clear hk hg hz; simp only [Act.put, List.setIfInBounds_toArray, List.set_cons_zero, List.set_cons_succ])
            | ((with_reducible show wpList _ _ _ (_ :: _) _ _); refine wpl_box rfl 56 (.tmp 1) (by rfl) (itC y).toArray (by rfl) ?_; intro w2 hk hg hz; have K2 := Lib.hid hk; have L2 := Lib.hid (bl_n (Below.refl _ w1) hg); clear hk hg hz; simp only [Act.put, List.setIfInBounds_toArray, List.set_cons_zero, List.set_cons_succ]))
          have KB := Lib.hid (K1.out.below L2.out K1.out.lt)
          have x0 := itC_cell KB.out (j := 0) (v := .int .u8 x.kind) rfl
          have y0 := itC_cell K2.out (j := 0) (v := .int .u8 y.kind) rfl
          have x1 := itC_cell KB.out (it_snap x)
          have y1 := itC_cell K2.out (it_snap y)
          have x2 := itC_cell KB.out (it_unit x)
          have y2 := itC_cell K2.out (it_unit y)
          have RX := Lib.hid (KB.out.part 1 (keyL x.key) (it_key x))
          have RY := Lib.hid (K2.out.part 1 (keyL y.key) (it_key y))
          go_wp2_with (first
            | ((with_reducible show wpList _ _ _ (_ :: _) _ _); refine wpList_load_mid rfl 50 (.tmp 14) (by rfl) w.heap.size 1 (by rfl) (keyL x.key) _ RX.out Tryz.underlying50 rfl (keyL_info _) ?_; simp only [Act.put, List.setIfInBounds_toArray, List.set_cons_zero, List.set_cons_succ])
            | ((with_reducible show wpList _ _ _ (_ :: _) _ _); refine wpList_load_mid rfl 50 (.tmp 16) (by rfl) w1.heap.size 1 (by rfl) (keyL y.key) _ RY.out Tryz.underlying50 rfl (keyL_info _) ?_; simp only [Act.put, List.setIfInBounds_toArray, List.set_cons_zero, List.set_cons_succ]))
          go_ret
          exact ⟨by rw [HR0.out]; rfl, below_chain L1.out L2.out⟩
        · have e3 : (x.snap == y.snap) = false := beq_eq_false_iff_ne.2 h3
          have HR0 := Lib.hid (show alikeB x y = false by unfold alikeB; rw [decide_eq_true hk, if_neg h1, if_pos h2, decide_eq_false h3]; rfl)
          clear hk h1 h2 h3
          go_enter Tryz.func86, Tryz.ntmps86
          go_upto_region 1 with (first
            | ((with_reducible show wpList _ _ _ (_ :: _) _ _); refine wpl_box rfl 56 (.tmp 0) (by rfl) (itC x).toArray (by rfl) ?_; intro w1 hk hg hz; have K1 := Lib.hid hk; have L1 := Lib.hid (bl_n (Below.refl _ w) hg); clear hk hg hz; simp only [Act.put, List.setIfInBounds_toArray, List.set_cons_zero, List.set_cons_succ])
            | ((with_reducible show wpList _ _ _ (_ :: _) _ _); refine wpl_box rfl 56 (.tmp 1) (by rfl) (itC y).toArray (by rfl) ?_; intro w2 hk hg hz; have K2 := Lib.hid hk; have L2 := Lib.hid (bl_n (Below.refl _ w1) hg); clear hk hg hz; simp only [Act.put, List.setIfInBounds_toArray, List.set_cons_zero, List.set_cons_succ]))
          have KB := Lib.hid (K1.out.below L2.out K1.out.lt)
          have x0 := itC_cell KB.out (j := 0) (v := .int .u8 x.kind) rfl
          have y0 := itC_cell K2.out (j := 0) (v := .int .u8 y.kind) rfl
          have x1 := itC_cell KB.out (it_snap x)
          have y1 := itC_cell K2.out (it_snap y)
          have x2 := itC_cell KB.out (it_unit x)
          have y2 := itC_cell K2.out (it_unit y)
          have RX := Lib.hid (KB.out.part 1 (keyL x.key) (it_key x))
          have RY := Lib.hid (K2.out.part 1 (keyL y.key) (it_key y))
          go_wp2_with (first
            | ((with_reducible show wpList _ _ _ (_ :: _) _ _); refine wpList_load_mid rfl 50 (.tmp 14) (by rfl) w.heap.size 1 (by rfl) (keyL x.key) _ RX.out Tryz.underlying50 rfl (keyL_info _) ?_; simp only [Act.put, List.setIfInBounds_toArray, List.set_cons_zero, List.set_cons_succ])
            | ((with_reducible show wpList _ _ _ (_ :: _) _ _); refine wpList_load_mid rfl 50 (.tmp 16) (by rfl) w1.heap.size 1 (by rfl) (keyL y.key) _ RY.out Tryz.underlying50 rfl (keyL_info _) ?_; simp only [Act.put, List.setIfInBounds_toArray, List.set_cons_zero, List.set_cons_succ]))
          go_ret
          exact ⟨by rw [HR0.out]; rfl, below_chain L1.out L2.out⟩
      · have e2 : (x.kind == 2) = false := beq_eq_false_iff_ne.2 h2
        obtain ⟨b, hb⟩ : ∃ q : Bool, q = decide (x.snap = y.snap) := ⟨_, rfl⟩
        have e4 : (x.snap == y.snap) = b := by rw [hb]; rfl
        have HR0 := Lib.hid (show alikeB x y = b by unfold alikeB; rw [decide_eq_true hk, if_neg h1, if_neg h2, hb]; rfl)
        clear hk h1 h2 hb
        go_enter Tryz.func86, Tryz.ntmps86
        go_upto_region 1 with (first
          | ((with_reducible show wpList _ _ _ (_ :: _) _ _); refine wpl_box rfl 56 (.tmp 0) (by rfl) (itC x).toArray (by rfl) ?_; intro w1 hk hg hz; have K1 := Lib.hid hk; have L1 := Lib.hid (bl_n (Below.refl _ w) hg); clear hk hg hz; simp only [Act.put, List.setIfInBounds_toArray, List.set_cons_zero, List.set_cons_succ])
          | ((with_reducible show wpList _ _ _ (_ :: _) _ _); refine wpl_box rfl 56 (.tmp 1) (by rfl) (itC y).toArray (by rfl) ?_; intro w2 hk hg hz; have K2 := Lib.hid hk; have L2 := Lib.hid (bl_n (Below.refl _ w1) hg); clear hk hg hz; simp only [Act.put, List.setIfInBounds_toArray, List.set_cons_zero, List.set_cons_succ]))
        have KB := Lib.hid (K1.out.below L2.out K1.out.lt)
        have x0 := itC_cell KB.out (j := 0) (v := .int .u8 x.kind) rfl
        have y0 := itC_cell K2.out (j := 0) (v := .int .u8 y.kind) rfl
        have x1 := itC_cell KB.out (it_snap x)
        have y1 := itC_cell K2.out (it_snap y)
        have x2 := itC_cell KB.out (it_unit x)
        have y2 := itC_cell K2.out (it_unit y)
        have RX := Lib.hid (KB.out.part 1 (keyL x.key) (it_key x))
        have RY := Lib.hid (K2.out.part 1 (keyL y.key) (it_key y))
        go_wp2_with (first
          | ((with_reducible show wpList _ _ _ (_ :: _) _ _); refine wpList_load_mid rfl 50 (.tmp 14) (by rfl) w.heap.size 1 (by rfl) (keyL x.key) _ RX.out Tryz.underlying50 rfl (keyL_info _) ?_; simp only [Act.put, List.setIfInBounds_toArray, List.set_cons_zero, List.set_cons_succ])
          | ((with_reducible show wpList _ _ _ (_ :: _) _ _); refine wpList_load_mid rfl 50 (.tmp 16) (by rfl) w1.heap.size 1 (by rfl) (keyL y.key) _ RY.out Tryz.underlying50 rfl (keyL_info _) ?_; simp only [Act.put, List.setIfInBounds_toArray, List.set_cons_zero, List.set_cons_succ]))
        go_ret
        exact ⟨by rw [HR0.out]; rfl, below_chain L1.out L2.out⟩
  · have d0 : (x.kind != y.kind) = true := by simp [hk]
    have HR0 := Lib.hid (show alikeB x y = false by unfold alikeB; rw [decide_eq_false hk]; rfl)
    clear hk
    go_enter Tryz.func86, Tryz.ntmps86
    go_upto_region 1 with (first
      | ((with_reducible show wpList _ _ _ (_ :: _) _ _); refine wpl_box rfl 56 (.tmp 0) (by rfl) (itC x).toArray (by rfl) ?_; intro w1 hk hg hz; have K1 := Lib.hid hk; have L1 := Lib.hid (bl_n (Below.refl _ w) hg); clear hk hg hz; simp only [Act.put, List.setIfInBounds_toArray, List.set_cons_zero, List.set_cons_succ])
      | ((with_reducible show wpList _ _ _ (_ :: _) _ _); refine wpl_box rfl 56 (.tmp 1) (by rfl) (itC y).toArray (by rfl) ?_; intro w2 hk hg hz; have K2 := Lib.hid hk; have L2 := Lib.hid (bl_n (Below.refl _ w1) hg); clear hk hg hz; simp only [Act.put, List.setIfInBounds_toArray, List.set_cons_zero, List.set_cons_succ]))
    have KB := Lib.hid (K1.out.below L2.out K1.out.lt)
    have x0 := itC_cell KB.out (j := 0) (v := .int .u8 x.kind) rfl
    have y0 := itC_cell K2.out (j := 0) (v := .int .u8 y.kind) rfl
    have x1 := itC_cell KB.out (it_snap x)
    have y1 := itC_cell K2.out (it_snap y)
    have x2 := itC_cell KB.out (it_unit x)
    have y2 := itC_cell K2.out (it_unit y)
    have RX := Lib.hid (KB.out.part 1 (keyL x.key) (it_key x))
    have RY := Lib.hid (K2.out.part 1 (keyL y.key) (it_key y))
    go_wp2_with (first
      | ((with_reducible show wpList _ _ _ (_ :: _) _ _); refine wpList_load_mid rfl 50 (.tmp 14) (by rfl) w.heap.size 1 (by rfl) (keyL x.key) _ RX.out Tryz.underlying50 rfl (keyL_info _) ?_; simp only [Act.put, List.setIfInBounds_toArray, List.set_cons_zero, List.set_cons_succ])
      | ((with_reducible show wpList _ _ _ (_ :: _) _ _); refine wpList_load_mid rfl 50 (.tmp 16) (by rfl) w1.heap.size 1 (by rfl) (keyL y.key) _ RY.out Tryz.underlying50 rfl (keyL_info _) ?_; simp only [Act.put, List.setIfInBounds_toArray, List.set_cons_zero, List.set_cons_succ]))
    go_ret
    exact ⟨by rw [HR0.out]; rfl, below_chain L1.out L2.out⟩
end Go.Proofs.YtgjjdfhoakailaaGreat
namespace Go.Proofs.YtgjjdfhoakailaaGreat
open Go.RowKit Go.Maps Go.Sort Go.Shelf
set_option linter.unusedVariables false
set_option linter.unusedSimpArgs false

def okR (units : Int) (l : List It) (i : It) : Bool :=
  if i.kind = 1 then decide (cntI l i.key = i.pl.ref)
  else if i.kind = 2 then (match extI l i.sl.key with | none => false | some x => decide (i.sl.off < x.pl.uni)) && decide (i.unit < units) && (decide (i.snap ≤ 0) || snapB l i.snap)
  else true
/-- What Makes asks of an item at a place. -/
def AtR (units : Int) (l : List It) (q : Nat) (hq : q < l.length) : Prop := rightR l[q] = true ∧ (∀ k (hk : k < q), alikeB l[q] (l[k]'(Nat.lt_trans hk hq)) = false) ∧ okR units l l[q] = true
def PreR (units : Int) (l : List It) (i : Nat) : Prop := ∀ q (_ : q < i) (hl : q < l.length), AtR units l q hl
def MkR (units : Int) (l : List It) : Prop := snapsN l ≤ 8 ∧ PreR units l l.length
theorem PreR.next {units : Int} {l : List It} {i : Nat} (h : PreR units l i) (hi : i < l.length) (ha : AtR units l i hi) : PreR units l (i + 1) := fun q hq hl => by
  rcases Nat.lt_or_ge q i with h1 | h1
  · exact h q h1 hl
  · have e : q = i := by omega
    subst e
    exact ha
theorem not_mk {units : Int} {l : List It} {i : Nat} (hi : i < l.length) (h : ¬ AtR units l i hi) : ¬ MkR units l := fun hm => h (hm.2 i hi hi)
def MksPost (units : Int) (l : List It) (w : World) (e : Ending) (w' : World) : Prop := (∃ b : Bool, e = .returned (.bool b) ∧ (b = true ↔ MkR units l)) ∧ Below w.heap.size w w'
set_option maxRecDepth 100000 in
set_option maxHeartbeats 8000000 in
theorem rMakes_any {w : World} {A : Option Addr} {n c : Nat} {l : List It} (h : Src w 73 (.slice A n c) n (itsC l)) (hl : l.length = n) (hn : n ≤ 1000000) (units : Int) (hb : ∀ i ∈ l, ItB i) :
    Calls Tryz.prog 37 #[.int .i64 units, .slice A n c] w (MksPost units l w) := by
  have H := Lib.hid h
  have HL := Lib.hid hl
  have HB := Lib.hid hb
  have HS := Lib.hid (show ∀ W, Below w.heap.size w W → Src W 73 (.slice A n c) n (itsC l) from fun W hW => H.out.below hW)
  have hn8 : n ≤ 100000000 := by omega
  clear h hl hb
  obtain ⟨p, hp⟩ : ∃ p, p = snapsN l := ⟨_, rfl⟩
  have HP := Lib.hid hp
  clear hp
  by_cases h8 : 8 < p
  · have h8I : (8 : Int) < (p : Int) := by omega
    have HF := Lib.hid (show ¬ MkR units l from fun hm => by have h1 := hm.1; have h2 := HP.out; omega)
    go_enter Tryz.func37, Tryz.ntmps37
    go_upto_region 2 with (first
      | (go_at_call 54; refine (rSnaps_any (H.out) HL.out hn8).mono ?_; rintro e w1 ⟨rfl, hb⟩; rewrite [← HP.out]; have L1 := Lib.hid hb; clear hb))
    go_wp2_with fail
    go_ret
    exact ⟨⟨false, rfl, by constructor
                           · intro h; cases h
                           · intro h; exact absurd h HF.out⟩, L1.out⟩
  · have h8I : ¬ (8 : Int) < (p : Int) := by omega
    have HP8 := Lib.hid (show snapsN l ≤ 8 by have h2 := HP.out; omega)
    go_enter Tryz.func37, Tryz.ntmps37
    go_upto_region 4 with (first
      | (go_at_call 54; refine (rSnaps_any (H.out) HL.out hn8).mono ?_; rintro e w1 ⟨rfl, hb⟩; rewrite [← HP.out]; have L1 := Lib.hid hb; clear hb))
    go_loopg [5] n (fun k iv wr => ∃ i : Nat, iv = .int .i64 (i : Int) ∧ i ≤ n ∧ i + k ≤ n ∧ n ≤ i + k ∧ PreR units l i ∧ Below w.heap.size w wr)
    case atStart => exact ⟨0, rfl, by omega, by omega, by omega, (fun q hq => absurd hq (by omega)), L1.out⟩
    case round =>
      obtain ⟨i, rfl, i1, i2, i3, hpre, hb⟩ := hrel
      have HPre := Lib.hid hpre
      have LB := Lib.hid hb
      obtain ⟨g0, hg0⟩ : ∃ g, g = gk := ⟨_, rfl⟩
      have HG := Lib.hid hg0
      clear hpre hb hg0 L1
      by_cases hi : i < n
      · have hiI : (i : Int) < (n : Int) := by omega
        have hil : i < l.length := by rw [HL.out]; exact hi
        obtain ⟨b, off, hA, hr0⟩ := src_part itC_len H.out HL.out hil
        have HXb := Lib.hid (HB.out _ (List.getElem_mem hil))
        have HNt := Lib.hid (fun h => not_mk (units := units) hil h)
        have HNx := Lib.hid (fun h => HPre.out.next hil h)
        have HAt := Lib.hid (show AtR units l i hil ↔ (rightR l[i] = true ∧ (∀ k (hk : k < i), alikeB l[i] (l[k]'(Nat.lt_trans hk hil)) = false) ∧ okR units l l[i] = true) from Iff.rfl)
        obtain ⟨x, hx⟩ : ∃ x, x = l[i] := ⟨_, rfl⟩
        rw [← hx] at hr0 HXb HAt
        have HX := Lib.hid hx
        clear hx
        have HRx := Lib.hid (show ∀ W, Below w.heap.size w W → W.rangeAt b (off + i * 73) (itC x) from fun W hW => blk_rng hr0 hW (by rw [itC_len]; omega))
        subst hA
        have Rg := Lib.hid (HRx.out _ LB.out)
        clear hr0
        obtain ⟨rb, hrb⟩ : ∃ q, q = rightR x := ⟨_, rfl⟩
        have HRb := Lib.hid hrb
        clear hrb
        cases rb
        case false =>
          have HF := Lib.hid (HNt.out (fun h => by have h1 := (HAt.out.1 h).1; rw [← HRb.out] at h1; cases h1))
          go_upto_region 7 with (first
            | ((with_reducible show wpList _ _ _ (_ :: _) _ _); refine wpl_sidx rfl 41 (.tmp 17) (.tmp 18) (by rfl) Tryz.underlying41 Tryz.sizeOf56 b off n c i (by rfl) (by rfl) hi ?_; simp only [Act.put, List.setIfInBounds_toArray, List.set_cons_zero, List.set_cons_succ])
            | ((with_reducible show wpList _ _ _ (_ :: _) _ _); refine wpList_load_mid rfl 56 (.tmp 19) (by rfl) b (off + i * 73) (by rfl) (itC x) _ Rg.out Tryz.underlying56 rfl (itC_info x) ?_; simp only [Act.put, List.setIfInBounds_toArray, List.set_cons_zero, List.set_cons_succ])
            | (go_at_call 85; refine (right14 HXb.out).mono ?_; rintro e w4 ⟨rfl, hb⟩; rewrite [← HRb.out]; have L4 := Lib.hid (below_chain LB.out hb); clear hb))
          go_wp2_with fail
          go_ret
          exact ⟨⟨false, rfl, by constructor
                                 · intro h; cases h
                                 · intro h; exact absurd h HF.out⟩, L4.out⟩
        case true =>
          go_upto_region 9 with (first
            | ((with_reducible show wpList _ _ _ (_ :: _) _ _); refine wpl_sidx rfl 41 (.tmp 17) (.tmp 18) (by rfl) Tryz.underlying41 Tryz.sizeOf56 b off n c i (by rfl) (by rfl) hi ?_; simp only [Act.put, List.setIfInBounds_toArray, List.set_cons_zero, List.set_cons_succ])
            | ((with_reducible show wpList _ _ _ (_ :: _) _ _); refine wpList_load_mid rfl 56 (.tmp 19) (by rfl) b (off + i * 73) (by rfl) (itC x) _ Rg.out Tryz.underlying56 rfl (itC_info x) ?_; simp only [Act.put, List.setIfInBounds_toArray, List.set_cons_zero, List.set_cons_succ])
            | (go_at_call 85; refine (right14 HXb.out).mono ?_; rintro e w4 ⟨rfl, hb⟩; rewrite [← HRb.out]; have L4 := Lib.hid (below_chain LB.out hb); clear hb))
          go_loopg [6] i (fun kk kv wk => ∃ k : Nat, kv = .int .i64 (k : Int) ∧ k ≤ i ∧ k + kk ≤ i ∧ i ≤ k + kk ∧ (∀ q (hq : q < k) (hl : q < l.length), alikeB x l[q] = false) ∧ Below w.heap.size w wk)
          case atStart => exact ⟨0, rfl, by omega, by omega, by omega, (fun q hq => absurd hq (by omega)), L4.out⟩
          case round =>
            obtain ⟨k, rfl, k1, k2, k3, hal, hb⟩ := hrel
            have HAl := Lib.hid hal
            have LK := Lib.hid hb
            clear hal hb L4 Rg
            by_cases hk : k < i
            · have hkI : (k : Int) < (i : Int) := by omega
              have hkn : k < n := by omega
              have hknI : (k : Int) < (n : Int) := by omega
              have hkl : k < l.length := by rw [HL.out]; exact hkn
              obtain ⟨b2, off2, hA2, hr2⟩ := src_part itC_len H.out HL.out hkl
              injection hA2 with hA2
              injection hA2 with e1 e2
              subst e1 e2
              have HKn := Lib.hid (show alikeB x l[k] = false → ∀ q (hq : q < k + 1) (hl : q < l.length), alikeB x l[q] = false from fun h q hq hl => by
                rcases Nat.lt_or_ge q k with h1 | h1
                · exact HAl.out q h1 hl
                · have e : q = k := by omega
                  subst e
                  exact h)
              have HKt := Lib.hid (show alikeB x l[k] = true → ¬ MkR units l from fun h => HNt.out (fun ha => by have h1 := (HAt.out.1 ha).2.1 k hk; rw [h] at h1; cases h1))
              obtain ⟨y, hy⟩ : ∃ y, y = l[k] := ⟨_, rfl⟩
              rw [← hy] at hr2 HKn HKt
              clear hy
              have HRy := Lib.hid (show ∀ W, Below w.heap.size w W → W.rangeAt b (off + k * 73) (itC y) from fun W hW => blk_rng hr2 hW (by rw [itC_len]; omega))
              clear hr2
              obtain ⟨ab, hab⟩ : ∃ q, q = alikeB x y := ⟨_, rfl⟩
              have HAb := Lib.hid hab
              rw [← hab] at HKn HKt
              clear hab
              cases ab
              case true =>
                have HF := Lib.hid (HKt.out (by trivial))
                clear HKn HKt
                go_upto_region 11 with fail
                refine wp_region_qs (fun _ w' => w'.rangeAt b (off + i * 73) (itC x) ∧ w'.rangeAt b (off + k * 73) (itC y)) [(0, some 1), (1, some 1), (2, some 1), (3, some 0), (4, some 1), (5, some 1), (6, some 1), (7, some 0), (8, none)] (by kernel_rfl) (by kernel_rfl) (by kernel_rfl) (by kernel_rfl) (by kernel_rfl) (fun _ _ _ _ _ h => h) ⟨HRx.out _ LK.out.drew, HRy.out _ LK.out.drew⟩ ?_
                simp only [List.map_cons, List.map_nil, List.getD_cons_succ, List.getD_cons_zero]
                (repeat (first | ((first | (refine qs_row (by rfl) 56 (.tmp 30) (by rfl) b (off + i * 73) (by rfl) (itC x) _ (fun j w' _ h2 h => h.1) Tryz.underlying56 rfl (itC_info _) ?_) | (refine qs_row (by rfl) 56 (.tmp 34) (by rfl) b (off + k * 73) (by rfl) (itC y) _ (fun j w' _ h2 h => h.2) Tryz.underlying56 rfl (itC_info _) ?_)); simp only [Act.put, List.setIfInBounds_toArray, List.set_cons_zero, List.set_cons_succ]) | (refine qs_now (v := ?_) (by rfl) ?_ ?_; rotate_left 1; (· (intro w' hS; go_simp; (try (simp only [↓IntWalk.iteOmega]; go_simp)); (try simp (disch := omega) only [IntWalk.i64_in]); try with_reducible rfl)); simp only [Act.put, List.setIfInBounds_toArray, List.set_cons_zero, List.set_cons_succ]) | (refine qs_run (v := ?_) (by rfl) ?_ ?_; rotate_left 1; (· (intro j w' hS; go_simp; (try (simp only [↓IntWalk.iteOmega]; go_simp)); (try simp (disch := omega) only [IntWalk.i64_in]); try with_reducible rfl)); simp only [Act.put, List.setIfInBounds_toArray, List.set_cons_zero, List.set_cons_succ]) | (refine qs_mid (v := ?_) (by rfl) ?_ ?_; rotate_left 1; (· (intro j w' hj1 hj2 hS; go_simp; (try (simp only [↓IntWalk.iteOmega]; go_simp)); (try simp (disch := omega) only [IntWalk.i64_in]); try with_reducible rfl)); simp only [Act.put, List.setIfInBounds_toArray, List.set_cons_zero, List.set_cons_succ]) | (refine qs_skip (by rfl) ?_; simp only [Act.put, List.setIfInBounds_toArray, List.set_cons_zero, List.set_cons_succ])))
                refine qs_act ?_
                go_wp2_with (go_at_call 86; refine (alike26 x y).mono ?_; rintro e w7 ⟨rfl, hb⟩; rewrite [← HAb.out]; have L7 := Lib.hid (below_chain LK.out.drew hb); clear hb)
                refine ⟨⟨HRx.out _ L7.out, HRy.out _ L7.out⟩, ?_⟩
                refine qs_nil ?_
                go_wp2_with fail
                go_ret
                exact ⟨⟨false, rfl, by constructor
                                       · intro h; cases h
                                       · intro h; exact absurd h HF.out⟩, L7.out⟩
              case false =>
                have HF := Lib.hid (HKn.out (by trivial))
                clear HKn HKt
                go_upto_region 11 with fail
                refine wp_region_qs (fun _ w' => w'.rangeAt b (off + i * 73) (itC x) ∧ w'.rangeAt b (off + k * 73) (itC y)) [(0, some 1), (1, some 1), (2, some 1), (3, some 0), (4, some 1), (5, some 1), (6, some 1), (7, some 0), (8, none)] (by kernel_rfl) (by kernel_rfl) (by kernel_rfl) (by kernel_rfl) (by kernel_rfl) (fun _ _ _ _ _ h => h) ⟨HRx.out _ LK.out.drew, HRy.out _ LK.out.drew⟩ ?_
                simp only [List.map_cons, List.map_nil, List.getD_cons_succ, List.getD_cons_zero]
                (repeat (first | ((first | (refine qs_row (by rfl) 56 (.tmp 30) (by rfl) b (off + i * 73) (by rfl) (itC x) _ (fun j w' _ h2 h => h.1) Tryz.underlying56 rfl (itC_info _) ?_) | (refine qs_row (by rfl) 56 (.tmp 34) (by rfl) b (off + k * 73) (by rfl) (itC y) _ (fun j w' _ h2 h => h.2) Tryz.underlying56 rfl (itC_info _) ?_)); simp only [Act.put, List.setIfInBounds_toArray, List.set_cons_zero, List.set_cons_succ]) | (refine qs_now (v := ?_) (by rfl) ?_ ?_; rotate_left 1; (· (intro w' hS; go_simp; (try (simp only [↓IntWalk.iteOmega]; go_simp)); (try simp (disch := omega) only [IntWalk.i64_in]); try with_reducible rfl)); simp only [Act.put, List.setIfInBounds_toArray, List.set_cons_zero, List.set_cons_succ]) | (refine qs_run (v := ?_) (by rfl) ?_ ?_; rotate_left 1; (· (intro j w' hS; go_simp; (try (simp only [↓IntWalk.iteOmega]; go_simp)); (try simp (disch := omega) only [IntWalk.i64_in]); try with_reducible rfl)); simp only [Act.put, List.setIfInBounds_toArray, List.set_cons_zero, List.set_cons_succ]) | (refine qs_mid (v := ?_) (by rfl) ?_ ?_; rotate_left 1; (· (intro j w' hj1 hj2 hS; go_simp; (try (simp only [↓IntWalk.iteOmega]; go_simp)); (try simp (disch := omega) only [IntWalk.i64_in]); try with_reducible rfl)); simp only [Act.put, List.setIfInBounds_toArray, List.set_cons_zero, List.set_cons_succ]) | (refine qs_skip (by rfl) ?_; simp only [Act.put, List.setIfInBounds_toArray, List.set_cons_zero, List.set_cons_succ])))
                refine qs_act ?_
                go_wp2_with (go_at_call 86; refine (alike26 x y).mono ?_; rintro e w7 ⟨rfl, hb⟩; rewrite [← HAb.out]; have L7 := Lib.hid (below_chain LK.out.drew hb); clear hb)
                refine ⟨⟨HRx.out _ L7.out, HRy.out _ L7.out⟩, ?_⟩
                refine qs_nil ?_
                go_wp2_with fail
                go_roundg (gk - 1)
                case measure => omega
                case rel => exact ⟨k + 1, by congr 1, by omega, by omega, by omega, HF.out, L7.out⟩
            · have hkI : ¬ (k : Int) < (i : Int) := by omega
              have HAll := Lib.hid (show ∀ q (hq : q < i), alikeB x (l[q]'(Nat.lt_trans hq hil)) = false from fun q hq => HAl.out q (by omega) _)
              have HOk := Lib.hid (show okR units l x = true → PreR units l (i + 1) from fun h => HNx.out (HAt.out.2 ⟨HRb.out.symm, HAll.out, h⟩))
              have HBad := Lib.hid (show okR units l x = false → ¬ MkR units l from fun h => HNt.out (fun ha => by have h1 := (HAt.out.1 ha).2.2; rw [h] at h1; cases h1))
              clear HAll HAl HNx HNt HAt HPre
              have k0 : wr.cell? ⟨b, off + i * 73, none⟩ = some (.int .u8 x.kind) := HRx.out _ LK.out 0 _ rfl
              by_cases h1 : x.kind = 1
              · have e1 : (x.kind == 1) = true := beq_iff_eq.2 h1
                obtain ⟨m0, hm0⟩ : ∃ m, m = cntI l x.key := ⟨_, rfl⟩
                have HM := Lib.hid hm0
                have HO := Lib.hid (show okR units l x = decide (m0 = x.pl.ref) by unfold okR; rw [if_pos h1, ← hm0])
                clear h1 hm0
                by_cases hm : m0 = x.pl.ref
                · have d1 : (m0 != x.pl.ref) = false := by simp [hm]
                  have HF := Lib.hid (HOk.out (by rw [HO.out]; exact decide_eq_true hm))
                  clear hm
                  go_upto_region 15 with fail
                  refine wp_region_qs (fun _ w' => w'.rangeAt b (off + i * 73 + 1) (keyL x.key) ∧ w'.cell? ⟨b, off + i * 73 + 36, none⟩ = some (.int .i64 x.pl.ref)) [(0, some 0), (1, some 1), (2, some 1), (3, some 1), (4, some 1), (5, some 0), (7, some 1), (8, some 1), (9, some 1), (10, some 1), (11, some 1), (12, some 1), (6, none), (13, some 1)] (by kernel_rfl) (by kernel_rfl) (by kernel_rfl) (by kernel_rfl) (by kernel_rfl) (fun _ _ _ _ _ h => h) ⟨rng_sub (HRx.out _ LK.out.drew) 1 (keyL x.key) (it_key x), HRx.out _ LK.out.drew 36 _ (itC_ref2 x)⟩ ?_
                  simp only [List.map_cons, List.map_nil, List.getD_cons_succ, List.getD_cons_zero]
                  (repeat (first | ((refine qs_row (by rfl) 50 (.tmp 48) (by rfl) b (off + i * 73 + 1) (by rfl) (keyL x.key) _ (fun j w' _ h2 h => h.1) Tryz.underlying50 rfl (keyL_info _) ?_); simp only [Act.put, List.setIfInBounds_toArray, List.set_cons_zero, List.set_cons_succ]) | (refine qs_now (v := ?_) (by rfl) ?_ ?_; rotate_left 1; (· (intro w' hS; go_simp; (try (simp only [↓IntWalk.iteOmega]; go_simp)); (try simp (disch := omega) only [IntWalk.i64_in]); try with_reducible rfl)); simp only [Act.put, List.setIfInBounds_toArray, List.set_cons_zero, List.set_cons_succ]) | (refine qs_run (v := ?_) (by rfl) ?_ ?_; rotate_left 1; (· (intro j w' hS; go_simp; (try (simp only [↓IntWalk.iteOmega]; go_simp)); (try simp (disch := omega) only [IntWalk.i64_in]); try with_reducible rfl)); simp only [Act.put, List.setIfInBounds_toArray, List.set_cons_zero, List.set_cons_succ]) | (refine qs_mid (v := ?_) (by rfl) ?_ ?_; rotate_left 1; (· (intro j w' hj1 hj2 hS; go_simp; (try (simp only [↓IntWalk.iteOmega]; go_simp)); (try simp (disch := omega) only [IntWalk.i64_in]); try with_reducible rfl)); simp only [Act.put, List.setIfInBounds_toArray, List.set_cons_zero, List.set_cons_succ]) | (refine qs_skip (by rfl) ?_; simp only [Act.put, List.setIfInBounds_toArray, List.set_cons_zero, List.set_cons_succ])))
                  refine qs_act ?_
                  go_wp2_with (go_at_call 87; refine (rRefs_any (HS.out _ LK.out.drew) HL.out hn8 x.key).mono ?_; rintro e w7 ⟨rfl, hb⟩; rewrite [← HM.out]; have L7 := Lib.hid (below_chain LK.out.drew hb); clear hb)
                  refine ⟨⟨rng_sub (HRx.out _ L7.out) 1 (keyL x.key) (it_key x), HRx.out _ L7.out 36 _ (itC_ref2 x)⟩, ?_⟩
                  (repeat (first | (refine qs_now (v := ?_) (by rfl) ?_ ?_; rotate_left 1; (· (intro w' hS; go_simp; (try (simp only [↓IntWalk.iteOmega]; go_simp)); (try simp (disch := omega) only [IntWalk.i64_in]); try with_reducible rfl)); simp only [Act.put, List.setIfInBounds_toArray, List.set_cons_zero, List.set_cons_succ]) | (refine qs_run (v := ?_) (by rfl) ?_ ?_; rotate_left 1; (· (intro j w' hS; go_simp; (try (simp only [↓IntWalk.iteOmega]; go_simp)); (try simp (disch := omega) only [IntWalk.i64_in]); try with_reducible rfl)); simp only [Act.put, List.setIfInBounds_toArray, List.set_cons_zero, List.set_cons_succ]) | (refine qs_mid (v := ?_) (by rfl) ?_ ?_; rotate_left 1; (· (intro j w' hj1 hj2 hS; go_simp; (try (simp only [↓IntWalk.iteOmega]; go_simp)); (try simp (disch := omega) only [IntWalk.i64_in]); try with_reducible rfl)); simp only [Act.put, List.setIfInBounds_toArray, List.set_cons_zero, List.set_cons_succ]) | (refine qs_skip (by rfl) ?_; simp only [Act.put, List.setIfInBounds_toArray, List.set_cons_zero, List.set_cons_succ])))
                  refine qs_nil ?_
                  go_wp2_with fail
                  go_roundg (g0 - 1)
                  case measure => have h := HG.out; omega
                  case rel => have h := HG.out; exact ⟨i + 1, by congr 1, by omega, by omega, by omega, HF.out, L7.out⟩
                · have d1 : (m0 != x.pl.ref) = true := by simp [hm]
                  have HF := Lib.hid (HBad.out (by rw [HO.out]; exact decide_eq_false hm))
                  clear hm
                  go_upto_region 15 with fail
                  refine wp_region_qs (fun _ w' => w'.rangeAt b (off + i * 73 + 1) (keyL x.key) ∧ w'.cell? ⟨b, off + i * 73 + 36, none⟩ = some (.int .i64 x.pl.ref)) [(0, some 0), (1, some 1), (2, some 1), (3, some 1), (4, some 1), (5, some 0), (7, some 1), (8, some 1), (9, some 1), (10, some 1), (11, some 1), (12, some 1), (6, none), (13, some 1)] (by kernel_rfl) (by kernel_rfl) (by kernel_rfl) (by kernel_rfl) (by kernel_rfl) (fun _ _ _ _ _ h => h) ⟨rng_sub (HRx.out _ LK.out.drew) 1 (keyL x.key) (it_key x), HRx.out _ LK.out.drew 36 _ (itC_ref2 x)⟩ ?_
                  simp only [List.map_cons, List.map_nil, List.getD_cons_succ, List.getD_cons_zero]
                  (repeat (first | ((refine qs_row (by rfl) 50 (.tmp 48) (by rfl) b (off + i * 73 + 1) (by rfl) (keyL x.key) _ (fun j w' _ h2 h => h.1) Tryz.underlying50 rfl (keyL_info _) ?_); simp only [Act.put, List.setIfInBounds_toArray, List.set_cons_zero, List.set_cons_succ]) | (refine qs_now (v := ?_) (by rfl) ?_ ?_; rotate_left 1; (· (intro w' hS; go_simp; (try (simp only [↓IntWalk.iteOmega]; go_simp)); (try simp (disch := omega) only [IntWalk.i64_in]); try with_reducible rfl)); simp only [Act.put, List.setIfInBounds_toArray, List.set_cons_zero, List.set_cons_succ]) | (refine qs_run (v := ?_) (by rfl) ?_ ?_; rotate_left 1; (· (intro j w' hS; go_simp; (try (simp only [↓IntWalk.iteOmega]; go_simp)); (try simp (disch := omega) only [IntWalk.i64_in]); try with_reducible rfl)); simp only [Act.put, List.setIfInBounds_toArray, List.set_cons_zero, List.set_cons_succ]) | (refine qs_mid (v := ?_) (by rfl) ?_ ?_; rotate_left 1; (· (intro j w' hj1 hj2 hS; go_simp; (try (simp only [↓IntWalk.iteOmega]; go_simp)); (try simp (disch := omega) only [IntWalk.i64_in]); try with_reducible rfl)); simp only [Act.put, List.setIfInBounds_toArray, List.set_cons_zero, List.set_cons_succ]) | (refine qs_skip (by rfl) ?_; simp only [Act.put, List.setIfInBounds_toArray, List.set_cons_zero, List.set_cons_succ])))
                  refine qs_act ?_
                  go_wp2_with (go_at_call 87; refine (rRefs_any (HS.out _ LK.out.drew) HL.out hn8 x.key).mono ?_; rintro e w7 ⟨rfl, hb⟩; rewrite [← HM.out]; have L7 := Lib.hid (below_chain LK.out.drew hb); clear hb)
                  refine ⟨⟨rng_sub (HRx.out _ L7.out) 1 (keyL x.key) (it_key x), HRx.out _ L7.out 36 _ (itC_ref2 x)⟩, ?_⟩
                  (repeat (first | (refine qs_now (v := ?_) (by rfl) ?_ ?_; rotate_left 1; (· (intro w' hS; go_simp; (try (simp only [↓IntWalk.iteOmega]; go_simp)); (try simp (disch := omega) only [IntWalk.i64_in]); try with_reducible rfl)); simp only [Act.put, List.setIfInBounds_toArray, List.set_cons_zero, List.set_cons_succ]) | (refine qs_run (v := ?_) (by rfl) ?_ ?_; rotate_left 1; (· (intro j w' hS; go_simp; (try (simp only [↓IntWalk.iteOmega]; go_simp)); (try simp (disch := omega) only [IntWalk.i64_in]); try with_reducible rfl)); simp only [Act.put, List.setIfInBounds_toArray, List.set_cons_zero, List.set_cons_succ]) | (refine qs_mid (v := ?_) (by rfl) ?_ ?_; rotate_left 1; (· (intro j w' hj1 hj2 hS; go_simp; (try (simp only [↓IntWalk.iteOmega]; go_simp)); (try simp (disch := omega) only [IntWalk.i64_in]); try with_reducible rfl)); simp only [Act.put, List.setIfInBounds_toArray, List.set_cons_zero, List.set_cons_succ]) | (refine qs_skip (by rfl) ?_; simp only [Act.put, List.setIfInBounds_toArray, List.set_cons_zero, List.set_cons_succ])))
                  refine qs_nil ?_
                  go_wp2_with fail
                  go_ret
                  exact ⟨⟨false, rfl, by constructor
                                         · intro h; cases h
                                         · intro h; exact absurd h HF.out⟩, L7.out⟩
              · have e1 : (x.kind == 1) = false := beq_eq_false_iff_ne.2 h1
                by_cases h2 : x.kind = 2
                · have e2 : (x.kind == 2) = true := beq_iff_eq.2 h2
                  have HO := Lib.hid (show okR units l x = ((match extI l x.sl.key with | none => false | some y => decide (x.sl.off < y.pl.uni)) && decide (x.unit < units) && (decide (x.snap ≤ 0) || snapB l x.snap)) by unfold okR; rw [if_neg h1, if_pos h2])
                  clear h1 h2
                  have RK := Lib.hid (rng_sub (HRx.out _ LK.out) 39 (keyL x.sl.key) (itC_slkey x))
                  go_upto_region 19 with (first
                    | ((with_reducible show wpList _ _ _ (_ :: _) _ _); refine wpList_load_mid rfl 50 (.tmp 65) (by rfl) b (off + i * 73 + 39) (by rfl) (keyL x.sl.key) _ RK.out Tryz.underlying50 rfl (keyL_info _) ?_; simp only [Act.put, List.setIfInBounds_toArray, List.set_cons_zero, List.set_cons_succ])
                    | (go_at_call 88; refine (rExt_any (HS.out _ LK.out) HL.out hn8 x.sl.key).mono ?_; rintro e w7 ⟨z, rfl, hz, hb⟩; have HZ := Lib.hid hz; have L7 := Lib.hid (below_chain LK.out hb); clear hb hz))
                  cases hx : extI l x.sl.key with
                  | none =>
                    have hz0 := HZ.out.none hx
                    have HF := Lib.hid (HBad.out (by rw [HO.out, hx]; rfl))
                    clear hx HO
                    subst hz0
                    refine wp_region_qs (fun _ w' => w'.cell? ⟨b, off + i * 73 + 37, none⟩ = some (.int .i64 x.snap)) [(0, some 1), (1, some 1), (2, some 1), (3, some 1), (4, some 1), (5, some 1), (6, some 1), (7, some 1), (8, some 1), (9, some 1), (10, some 1), (11, some 1), (12, some 1), (13, some 1), (14, some 1), (15, some 1), (16, some 1), (17, some 1), (18, some 1), (19, some 1), (20, some 1), (21, some 1), (22, some 1), (23, some 1), (24, some 1), (25, some 1), (26, some 1), (27, some 1), (28, some 1), (29, some 1), (30, some 1), (31, some 1), (32, some 1), (33, some 0), (34, some 0), (35, some 1), (36, some 1), (37, some 1), (38, some 1), (39, some 0), (40, none), (41, some 1), (42, some 1), (43, some 1)] (by kernel_rfl) (by kernel_rfl) (by kernel_rfl) (by kernel_rfl) (by kernel_rfl) (fun _ _ _ _ _ h => h) (HRx.out _ L7.out.drew 37 _ (it_snap x)) ?_
                    simp only [List.map_cons, List.map_nil, List.getD_cons_succ, List.getD_cons_zero]
                    (repeat (first | (refine qs_now (v := ?_) (by rfl) ?_ ?_; rotate_left 1; (· (intro w' hS; go_simp; (try (simp only [↓IntWalk.iteOmega]; go_simp)); (try simp (disch := omega) only [IntWalk.i64_in]); try with_reducible rfl)); simp only [Act.put, List.setIfInBounds_toArray, List.set_cons_zero, List.set_cons_succ]) | (refine qs_run (v := ?_) (by rfl) ?_ ?_; rotate_left 1; (· (intro j w' hS; go_simp; (try (simp only [↓IntWalk.iteOmega]; go_simp)); (try simp (disch := omega) only [IntWalk.i64_in]); try with_reducible rfl)); simp only [Act.put, List.setIfInBounds_toArray, List.set_cons_zero, List.set_cons_succ]) | (refine qs_mid (v := ?_) (by rfl) ?_ ?_; rotate_left 1; (· (intro j w' hj1 hj2 hS; go_simp; (try (simp only [↓IntWalk.iteOmega]; go_simp)); (try simp (disch := omega) only [IntWalk.i64_in]); try with_reducible rfl)); simp only [Act.put, List.setIfInBounds_toArray, List.set_cons_zero, List.set_cons_succ]) | (refine qs_skip (by rfl) ?_; simp only [Act.put, List.setIfInBounds_toArray, List.set_cons_zero, List.set_cons_succ])))
                    refine qs_act ?_
                    go_wp2_with fail
                    refine ⟨HRx.out _ L7.out.drew 37 _ (it_snap x), ?_⟩
                    (repeat (first | (refine qs_now (v := ?_) (by rfl) ?_ ?_; rotate_left 1; (· (intro w' hS; go_simp; (try (simp only [↓IntWalk.iteOmega]; go_simp)); (try simp (disch := omega) only [IntWalk.i64_in]); try with_reducible rfl)); simp only [Act.put, List.setIfInBounds_toArray, List.set_cons_zero, List.set_cons_succ]) | (refine qs_run (v := ?_) (by rfl) ?_ ?_; rotate_left 1; (· (intro j w' hS; go_simp; (try (simp only [↓IntWalk.iteOmega]; go_simp)); (try simp (disch := omega) only [IntWalk.i64_in]); try with_reducible rfl)); simp only [Act.put, List.setIfInBounds_toArray, List.set_cons_zero, List.set_cons_succ]) | (refine qs_mid (v := ?_) (by rfl) ?_ ?_; rotate_left 1; (· (intro j w' hj1 hj2 hS; go_simp; (try (simp only [↓IntWalk.iteOmega]; go_simp)); (try simp (disch := omega) only [IntWalk.i64_in]); try with_reducible rfl)); simp only [Act.put, List.setIfInBounds_toArray, List.set_cons_zero, List.set_cons_succ]) | (refine qs_skip (by rfl) ?_; simp only [Act.put, List.setIfInBounds_toArray, List.set_cons_zero, List.set_cons_succ])))
                    refine qs_nil ?_
                    go_wp2_with fail
                    go_ret
                    exact ⟨⟨false, rfl, by constructor
                                           · intro h; cases h
                                           · intro h; exact absurd h HF.out⟩, L7.out.drew⟩
                  | some y =>
                    obtain ⟨j, hj, hy, hz0⟩ := HZ.out.some hx
                    obtain ⟨b2, off2, hA2, hr2⟩ := src_part itC_len H.out HL.out hj
                    injection hA2 with hA2
                    injection hA2 with e3 e4
                    subst e3 e4
                    rw [hy] at hr2
                    have hjn : j < n := by rw [← HL.out]; exact hj
                    have hjnI : (j : Int) < (n : Int) := by omega
                    subst hz0
                    have GD := Lib.hid (show ∀ W, Below w.heap.size w W → W.cell? ⟨b, off + i * 73 + 71, none⟩ = some (.int .i64 x.sl.off) ∧ W.cell? ⟨b, off + j * 73 + 35, none⟩ = some (.int .i64 y.pl.uni) ∧ W.cell? ⟨b, off + i * 73 + 38, none⟩ = some (.int .i64 x.unit) ∧ W.cell? ⟨b, off + i * 73 + 37, none⟩ = some (.int .i64 x.snap) from fun W hW =>
                      ⟨HRx.out _ hW 71 _ (it_off x), blk_rng hr2 hW (by rw [itC_len]; omega) 35 _ (it_uni y), HRx.out _ hW 38 _ (it_unit x), HRx.out _ hW 37 _ (it_snap x)⟩)
                    obtain ⟨sb, hsb⟩ : ∃ q, q = snapB l x.snap := ⟨_, rfl⟩
                    have HSb := Lib.hid hsb
                    have HO2 := Lib.hid (show okR units l x = (decide (x.sl.off < y.pl.uni) && decide (x.unit < units) && (decide (x.snap ≤ 0) || sb)) by rw [HO.out, hx, hsb])
                    clear hr2 hy hx HO HZ hsb RK
                    by_cases c1 : x.sl.off < y.pl.uni
                    · have c1I : ¬ y.pl.uni ≤ x.sl.off := by omega
                      by_cases c2 : x.unit < units
                      · have c2I : ¬ units ≤ x.unit := by omega
                        by_cases c3 : x.snap ≤ 0
                        · have c3I : ¬ 0 < x.snap := by omega
                          have HF := Lib.hid (HOk.out (by rw [HO2.out, decide_eq_true c1, decide_eq_true c2, decide_eq_true c3]; rfl))
                          refine wp_region_qs (fun _ w' => w'.cell? ⟨b, off + i * 73 + 71, none⟩ = some (.int .i64 x.sl.off) ∧ w'.cell? ⟨b, off + j * 73 + 35, none⟩ = some (.int .i64 y.pl.uni) ∧ w'.cell? ⟨b, off + i * 73 + 38, none⟩ = some (.int .i64 x.unit) ∧ w'.cell? ⟨b, off + i * 73 + 37, none⟩ = some (.int .i64 x.snap)) [(0, some 1), (1, some 1), (2, some 1), (3, some 1), (4, some 1), (5, some 1), (6, some 1), (7, some 1), (8, some 1), (9, some 1), (10, some 1), (11, some 1), (12, some 1), (13, some 1), (14, some 1), (15, some 1), (16, some 1), (17, some 1), (18, some 1), (19, some 1), (20, some 1), (21, some 1), (22, some 1), (23, some 1), (24, some 1), (25, some 1), (26, some 1), (27, some 1), (28, some 1), (29, some 1), (30, some 1), (31, some 1), (32, some 1), (33, some 0), (34, some 0), (35, some 1), (36, some 1), (37, some 1), (38, some 1), (39, some 0), (40, none), (41, some 1), (42, some 1), (43, some 1)] (by kernel_rfl) (by kernel_rfl) (by kernel_rfl) (by kernel_rfl) (by kernel_rfl) (fun _ _ _ _ _ h => h) (GD.out _ L7.out.drew) ?_
                          simp only [List.map_cons, List.map_nil, List.getD_cons_succ, List.getD_cons_zero]
                          (repeat (first | (refine qs_now (v := ?_) (by rfl) ?_ ?_; rotate_left 1; (· (intro w' hS; go_simp; (try (simp only [↓IntWalk.iteOmega]; go_simp)); (try simp (disch := omega) only [IntWalk.i64_in]); try with_reducible rfl)); simp only [Act.put, List.setIfInBounds_toArray, List.set_cons_zero, List.set_cons_succ]) | (refine qs_run (v := ?_) (by rfl) ?_ ?_; rotate_left 1; (· (intro j w' hS; go_simp; (try (simp only [↓IntWalk.iteOmega]; go_simp)); (try simp (disch := omega) only [IntWalk.i64_in]); try with_reducible rfl)); simp only [Act.put, List.setIfInBounds_toArray, List.set_cons_zero, List.set_cons_succ]) | (refine qs_mid (v := ?_) (by rfl) ?_ ?_; rotate_left 1; (· (intro j w' hj1 hj2 hS; go_simp; (try (simp only [↓IntWalk.iteOmega]; go_simp)); (try simp (disch := omega) only [IntWalk.i64_in]); try with_reducible rfl)); simp only [Act.put, List.setIfInBounds_toArray, List.set_cons_zero, List.set_cons_succ]) | (refine qs_skip (by rfl) ?_; simp only [Act.put, List.setIfInBounds_toArray, List.set_cons_zero, List.set_cons_succ])))
                          refine qs_act ?_
                          go_wp2_with fail
                          refine ⟨GD.out w7.drew L7.out.drew, ?_⟩
                          (repeat (first | (refine qs_now (v := ?_) (by rfl) ?_ ?_; rotate_left 1; (· (intro w' hS; go_simp; (try (simp only [↓IntWalk.iteOmega]; go_simp)); (try simp (disch := omega) only [IntWalk.i64_in]); try with_reducible rfl)); simp only [Act.put, List.setIfInBounds_toArray, List.set_cons_zero, List.set_cons_succ]) | (refine qs_run (v := ?_) (by rfl) ?_ ?_; rotate_left 1; (· (intro j w' hS; go_simp; (try (simp only [↓IntWalk.iteOmega]; go_simp)); (try simp (disch := omega) only [IntWalk.i64_in]); try with_reducible rfl)); simp only [Act.put, List.setIfInBounds_toArray, List.set_cons_zero, List.set_cons_succ]) | (refine qs_mid (v := ?_) (by rfl) ?_ ?_; rotate_left 1; (· (intro j w' hj1 hj2 hS; go_simp; (try (simp only [↓IntWalk.iteOmega]; go_simp)); (try simp (disch := omega) only [IntWalk.i64_in]); try with_reducible rfl)); simp only [Act.put, List.setIfInBounds_toArray, List.set_cons_zero, List.set_cons_succ]) | (refine qs_skip (by rfl) ?_; simp only [Act.put, List.setIfInBounds_toArray, List.set_cons_zero, List.set_cons_succ])))
                          refine qs_nil ?_
                          go_wp2_with fail
                          go_roundg (g0 - 1)
                          case measure => have h := HG.out; omega
                          case rel => have h := HG.out; exact ⟨i + 1, by congr 1, by omega, by omega, by omega, HF.out, L7.out.drew⟩
                        · have c3I : 0 < x.snap := by omega
                          cases sb
                          case true =>
                            have HF := Lib.hid (HOk.out (by rw [HO2.out, decide_eq_true c1, decide_eq_true c2]; simp))
                            refine wp_region_qs (fun _ w' => w'.cell? ⟨b, off + i * 73 + 71, none⟩ = some (.int .i64 x.sl.off) ∧ w'.cell? ⟨b, off + j * 73 + 35, none⟩ = some (.int .i64 y.pl.uni) ∧ w'.cell? ⟨b, off + i * 73 + 38, none⟩ = some (.int .i64 x.unit) ∧ w'.cell? ⟨b, off + i * 73 + 37, none⟩ = some (.int .i64 x.snap)) [(0, some 1), (1, some 1), (2, some 1), (3, some 1), (4, some 1), (5, some 1), (6, some 1), (7, some 1), (8, some 1), (9, some 1), (10, some 1), (11, some 1), (12, some 1), (13, some 1), (14, some 1), (15, some 1), (16, some 1), (17, some 1), (18, some 1), (19, some 1), (20, some 1), (21, some 1), (22, some 1), (23, some 1), (24, some 1), (25, some 1), (26, some 1), (27, some 1), (28, some 1), (29, some 1), (30, some 1), (31, some 1), (32, some 1), (33, some 0), (34, some 0), (35, some 1), (36, some 1), (37, some 1), (38, some 1), (39, some 0), (40, none), (41, some 1), (42, some 1), (43, some 1)] (by kernel_rfl) (by kernel_rfl) (by kernel_rfl) (by kernel_rfl) (by kernel_rfl) (fun _ _ _ _ _ h => h) (GD.out _ L7.out.drew) ?_
                            simp only [List.map_cons, List.map_nil, List.getD_cons_succ, List.getD_cons_zero]
                            (repeat (first | (refine qs_now (v := ?_) (by rfl) ?_ ?_; rotate_left 1; (· (intro w' hS; go_simp; (try (simp only [↓IntWalk.iteOmega]; go_simp)); (try simp (disch := omega) only [IntWalk.i64_in]); try with_reducible rfl)); simp only [Act.put, List.setIfInBounds_toArray, List.set_cons_zero, List.set_cons_succ]) | (refine qs_run (v := ?_) (by rfl) ?_ ?_; rotate_left 1; (· (intro j w' hS; go_simp; (try (simp only [↓IntWalk.iteOmega]; go_simp)); (try simp (disch := omega) only [IntWalk.i64_in]); try with_reducible rfl)); simp only [Act.put, List.setIfInBounds_toArray, List.set_cons_zero, List.set_cons_succ]) | (refine qs_mid (v := ?_) (by rfl) ?_ ?_; rotate_left 1; (· (intro j w' hj1 hj2 hS; go_simp; (try (simp only [↓IntWalk.iteOmega]; go_simp)); (try simp (disch := omega) only [IntWalk.i64_in]); try with_reducible rfl)); simp only [Act.put, List.setIfInBounds_toArray, List.set_cons_zero, List.set_cons_succ]) | (refine qs_skip (by rfl) ?_; simp only [Act.put, List.setIfInBounds_toArray, List.set_cons_zero, List.set_cons_succ])))
                            refine qs_act ?_
                            go_wp2_with (go_at_call 53; refine (rSnap_any (HS.out _ L7.out.drew) HL.out hn8 x.snap).mono ?_; rintro e w9 ⟨rfl, hb⟩; rewrite [← HSb.out]; have L9 := Lib.hid (below_chain L7.out.drew hb); clear hb)
                            refine ⟨GD.out _ L9.out, ?_⟩
                            (repeat (first | (refine qs_now (v := ?_) (by rfl) ?_ ?_; rotate_left 1; (· (intro w' hS; go_simp; (try (simp only [↓IntWalk.iteOmega]; go_simp)); (try simp (disch := omega) only [IntWalk.i64_in]); try with_reducible rfl)); simp only [Act.put, List.setIfInBounds_toArray, List.set_cons_zero, List.set_cons_succ]) | (refine qs_run (v := ?_) (by rfl) ?_ ?_; rotate_left 1; (· (intro j w' hS; go_simp; (try (simp only [↓IntWalk.iteOmega]; go_simp)); (try simp (disch := omega) only [IntWalk.i64_in]); try with_reducible rfl)); simp only [Act.put, List.setIfInBounds_toArray, List.set_cons_zero, List.set_cons_succ]) | (refine qs_mid (v := ?_) (by rfl) ?_ ?_; rotate_left 1; (· (intro j w' hj1 hj2 hS; go_simp; (try (simp only [↓IntWalk.iteOmega]; go_simp)); (try simp (disch := omega) only [IntWalk.i64_in]); try with_reducible rfl)); simp only [Act.put, List.setIfInBounds_toArray, List.set_cons_zero, List.set_cons_succ]) | (refine qs_skip (by rfl) ?_; simp only [Act.put, List.setIfInBounds_toArray, List.set_cons_zero, List.set_cons_succ])))
                            refine qs_nil ?_
                            go_wp2_with fail
                            go_roundg (g0 - 1)
                            case measure => have h := HG.out; omega
                            case rel => have h := HG.out; exact ⟨i + 1, by congr 1, by omega, by omega, by omega, HF.out, L9.out⟩
                          case false =>
                            have HF := Lib.hid (HBad.out (by rw [HO2.out, decide_eq_false c3]; simp))
                            refine wp_region_qs (fun _ w' => w'.cell? ⟨b, off + i * 73 + 71, none⟩ = some (.int .i64 x.sl.off) ∧ w'.cell? ⟨b, off + j * 73 + 35, none⟩ = some (.int .i64 y.pl.uni) ∧ w'.cell? ⟨b, off + i * 73 + 38, none⟩ = some (.int .i64 x.unit) ∧ w'.cell? ⟨b, off + i * 73 + 37, none⟩ = some (.int .i64 x.snap)) [(0, some 1), (1, some 1), (2, some 1), (3, some 1), (4, some 1), (5, some 1), (6, some 1), (7, some 1), (8, some 1), (9, some 1), (10, some 1), (11, some 1), (12, some 1), (13, some 1), (14, some 1), (15, some 1), (16, some 1), (17, some 1), (18, some 1), (19, some 1), (20, some 1), (21, some 1), (22, some 1), (23, some 1), (24, some 1), (25, some 1), (26, some 1), (27, some 1), (28, some 1), (29, some 1), (30, some 1), (31, some 1), (32, some 1), (33, some 0), (34, some 0), (35, some 1), (36, some 1), (37, some 1), (38, some 1), (39, some 0), (40, none), (41, some 1), (42, some 1), (43, some 1)] (by kernel_rfl) (by kernel_rfl) (by kernel_rfl) (by kernel_rfl) (by kernel_rfl) (fun _ _ _ _ _ h => h) (GD.out _ L7.out.drew) ?_
                            simp only [List.map_cons, List.map_nil, List.getD_cons_succ, List.getD_cons_zero]
                            (repeat (first | (refine qs_now (v := ?_) (by rfl) ?_ ?_; rotate_left 1; (· (intro w' hS; go_simp; (try (simp only [↓IntWalk.iteOmega]; go_simp)); (try simp (disch := omega) only [IntWalk.i64_in]); try with_reducible rfl)); simp only [Act.put, List.setIfInBounds_toArray, List.set_cons_zero, List.set_cons_succ]) | (refine qs_run (v := ?_) (by rfl) ?_ ?_; rotate_left 1; (· (intro j w' hS; go_simp; (try (simp only [↓IntWalk.iteOmega]; go_simp)); (try simp (disch := omega) only [IntWalk.i64_in]); try with_reducible rfl)); simp only [Act.put, List.setIfInBounds_toArray, List.set_cons_zero, List.set_cons_succ]) | (refine qs_mid (v := ?_) (by rfl) ?_ ?_; rotate_left 1; (· (intro j w' hj1 hj2 hS; go_simp; (try (simp only [↓IntWalk.iteOmega]; go_simp)); (try simp (disch := omega) only [IntWalk.i64_in]); try with_reducible rfl)); simp only [Act.put, List.setIfInBounds_toArray, List.set_cons_zero, List.set_cons_succ]) | (refine qs_skip (by rfl) ?_; simp only [Act.put, List.setIfInBounds_toArray, List.set_cons_zero, List.set_cons_succ])))
                            refine qs_act ?_
                            go_wp2_with (go_at_call 53; refine (rSnap_any (HS.out _ L7.out.drew) HL.out hn8 x.snap).mono ?_; rintro e w9 ⟨rfl, hb⟩; rewrite [← HSb.out]; have L9 := Lib.hid (below_chain L7.out.drew hb); clear hb)
                            refine ⟨GD.out _ L9.out, ?_⟩
                            (repeat (first | (refine qs_now (v := ?_) (by rfl) ?_ ?_; rotate_left 1; (· (intro w' hS; go_simp; (try (simp only [↓IntWalk.iteOmega]; go_simp)); (try simp (disch := omega) only [IntWalk.i64_in]); try with_reducible rfl)); simp only [Act.put, List.setIfInBounds_toArray, List.set_cons_zero, List.set_cons_succ]) | (refine qs_run (v := ?_) (by rfl) ?_ ?_; rotate_left 1; (· (intro j w' hS; go_simp; (try (simp only [↓IntWalk.iteOmega]; go_simp)); (try simp (disch := omega) only [IntWalk.i64_in]); try with_reducible rfl)); simp only [Act.put, List.setIfInBounds_toArray, List.set_cons_zero, List.set_cons_succ]) | (refine qs_mid (v := ?_) (by rfl) ?_ ?_; rotate_left 1; (· (intro j w' hj1 hj2 hS; go_simp; (try (simp only [↓IntWalk.iteOmega]; go_simp)); (try simp (disch := omega) only [IntWalk.i64_in]); try with_reducible rfl)); simp only [Act.put, List.setIfInBounds_toArray, List.set_cons_zero, List.set_cons_succ]) | (refine qs_skip (by rfl) ?_; simp only [Act.put, List.setIfInBounds_toArray, List.set_cons_zero, List.set_cons_succ])))
                            refine qs_nil ?_
                            go_wp2_with fail
                            go_ret
                            exact ⟨⟨false, rfl, by constructor
                                                   · intro h; cases h
                                                   · intro h; exact absurd h HF.out⟩, L9.out⟩
                      · have c2I : units ≤ x.unit := by omega
                        have HF := Lib.hid (HBad.out (by rw [HO2.out, decide_eq_false c2]; simp))
                        refine wp_region_qs (fun _ w' => w'.cell? ⟨b, off + i * 73 + 71, none⟩ = some (.int .i64 x.sl.off) ∧ w'.cell? ⟨b, off + j * 73 + 35, none⟩ = some (.int .i64 y.pl.uni) ∧ w'.cell? ⟨b, off + i * 73 + 38, none⟩ = some (.int .i64 x.unit) ∧ w'.cell? ⟨b, off + i * 73 + 37, none⟩ = some (.int .i64 x.snap)) [(0, some 1), (1, some 1), (2, some 1), (3, some 1), (4, some 1), (5, some 1), (6, some 1), (7, some 1), (8, some 1), (9, some 1), (10, some 1), (11, some 1), (12, some 1), (13, some 1), (14, some 1), (15, some 1), (16, some 1), (17, some 1), (18, some 1), (19, some 1), (20, some 1), (21, some 1), (22, some 1), (23, some 1), (24, some 1), (25, some 1), (26, some 1), (27, some 1), (28, some 1), (29, some 1), (30, some 1), (31, some 1), (32, some 1), (33, some 0), (34, some 0), (35, some 1), (36, some 1), (37, some 1), (38, some 1), (39, some 0), (40, none), (41, some 1), (42, some 1), (43, some 1)] (by kernel_rfl) (by kernel_rfl) (by kernel_rfl) (by kernel_rfl) (by kernel_rfl) (fun _ _ _ _ _ h => h) (GD.out _ L7.out.drew) ?_
                        simp only [List.map_cons, List.map_nil, List.getD_cons_succ, List.getD_cons_zero]
                        (repeat (first | (refine qs_now (v := ?_) (by rfl) ?_ ?_; rotate_left 1; (· (intro w' hS; go_simp; (try (simp only [↓IntWalk.iteOmega]; go_simp)); (try simp (disch := omega) only [IntWalk.i64_in]); try with_reducible rfl)); simp only [Act.put, List.setIfInBounds_toArray, List.set_cons_zero, List.set_cons_succ]) | (refine qs_run (v := ?_) (by rfl) ?_ ?_; rotate_left 1; (· (intro j w' hS; go_simp; (try (simp only [↓IntWalk.iteOmega]; go_simp)); (try simp (disch := omega) only [IntWalk.i64_in]); try with_reducible rfl)); simp only [Act.put, List.setIfInBounds_toArray, List.set_cons_zero, List.set_cons_succ]) | (refine qs_mid (v := ?_) (by rfl) ?_ ?_; rotate_left 1; (· (intro j w' hj1 hj2 hS; go_simp; (try (simp only [↓IntWalk.iteOmega]; go_simp)); (try simp (disch := omega) only [IntWalk.i64_in]); try with_reducible rfl)); simp only [Act.put, List.setIfInBounds_toArray, List.set_cons_zero, List.set_cons_succ]) | (refine qs_skip (by rfl) ?_; simp only [Act.put, List.setIfInBounds_toArray, List.set_cons_zero, List.set_cons_succ])))
                        refine qs_act ?_
                        go_wp2_with fail
                        refine ⟨GD.out w7.drew L7.out.drew, ?_⟩
                        (repeat (first | (refine qs_now (v := ?_) (by rfl) ?_ ?_; rotate_left 1; (· (intro w' hS; go_simp; (try (simp only [↓IntWalk.iteOmega]; go_simp)); (try simp (disch := omega) only [IntWalk.i64_in]); try with_reducible rfl)); simp only [Act.put, List.setIfInBounds_toArray, List.set_cons_zero, List.set_cons_succ]) | (refine qs_run (v := ?_) (by rfl) ?_ ?_; rotate_left 1; (· (intro j w' hS; go_simp; (try (simp only [↓IntWalk.iteOmega]; go_simp)); (try simp (disch := omega) only [IntWalk.i64_in]); try with_reducible rfl)); simp only [Act.put, List.setIfInBounds_toArray, List.set_cons_zero, List.set_cons_succ]) | (refine qs_mid (v := ?_) (by rfl) ?_ ?_; rotate_left 1; (· (intro j w' hj1 hj2 hS; go_simp; (try (simp only [↓IntWalk.iteOmega]; go_simp)); (try simp (disch := omega) only [IntWalk.i64_in]); try with_reducible rfl)); simp only [Act.put, List.setIfInBounds_toArray, List.set_cons_zero, List.set_cons_succ]) | (refine qs_skip (by rfl) ?_; simp only [Act.put, List.setIfInBounds_toArray, List.set_cons_zero, List.set_cons_succ])))
                        refine qs_nil ?_
                        go_wp2_with fail
                        go_ret
                        exact ⟨⟨false, rfl, by constructor
                                               · intro h; cases h
                                               · intro h; exact absurd h HF.out⟩, L7.out.drew⟩
                    · have c1I : y.pl.uni ≤ x.sl.off := by omega
                      have HF := Lib.hid (HBad.out (by rw [HO2.out, decide_eq_false c1]; rfl))
                      refine wp_region_qs (fun _ w' => w'.cell? ⟨b, off + i * 73 + 71, none⟩ = some (.int .i64 x.sl.off) ∧ w'.cell? ⟨b, off + j * 73 + 35, none⟩ = some (.int .i64 y.pl.uni) ∧ w'.cell? ⟨b, off + i * 73 + 38, none⟩ = some (.int .i64 x.unit) ∧ w'.cell? ⟨b, off + i * 73 + 37, none⟩ = some (.int .i64 x.snap)) [(0, some 1), (1, some 1), (2, some 1), (3, some 1), (4, some 1), (5, some 1), (6, some 1), (7, some 1), (8, some 1), (9, some 1), (10, some 1), (11, some 1), (12, some 1), (13, some 1), (14, some 1), (15, some 1), (16, some 1), (17, some 1), (18, some 1), (19, some 1), (20, some 1), (21, some 1), (22, some 1), (23, some 1), (24, some 1), (25, some 1), (26, some 1), (27, some 1), (28, some 1), (29, some 1), (30, some 1), (31, some 1), (32, some 1), (33, some 0), (34, some 0), (35, some 1), (36, some 1), (37, some 1), (38, some 1), (39, some 0), (40, none), (41, some 1), (42, some 1), (43, some 1)] (by kernel_rfl) (by kernel_rfl) (by kernel_rfl) (by kernel_rfl) (by kernel_rfl) (fun _ _ _ _ _ h => h) (GD.out _ L7.out.drew) ?_
                      simp only [List.map_cons, List.map_nil, List.getD_cons_succ, List.getD_cons_zero]
                      (repeat (first | (refine qs_now (v := ?_) (by rfl) ?_ ?_; rotate_left 1; (· (intro w' hS; go_simp; (try (simp only [↓IntWalk.iteOmega]; go_simp)); (try simp (disch := omega) only [IntWalk.i64_in]); try with_reducible rfl)); simp only [Act.put, List.setIfInBounds_toArray, List.set_cons_zero, List.set_cons_succ]) | (refine qs_run (v := ?_) (by rfl) ?_ ?_; rotate_left 1; (· (intro j w' hS; go_simp; (try (simp only [↓IntWalk.iteOmega]; go_simp)); (try simp (disch := omega) only [IntWalk.i64_in]); try with_reducible rfl)); simp only [Act.put, List.setIfInBounds_toArray, List.set_cons_zero, List.set_cons_succ]) | (refine qs_mid (v := ?_) (by rfl) ?_ ?_; rotate_left 1; (· (intro j w' hj1 hj2 hS; go_simp; (try (simp only [↓IntWalk.iteOmega]; go_simp)); (try simp (disch := omega) only [IntWalk.i64_in]); try with_reducible rfl)); simp only [Act.put, List.setIfInBounds_toArray, List.set_cons_zero, List.set_cons_succ]) | (refine qs_skip (by rfl) ?_; simp only [Act.put, List.setIfInBounds_toArray, List.set_cons_zero, List.set_cons_succ])))
                      refine qs_act ?_
                      go_wp2_with fail
                      refine ⟨GD.out w7.drew L7.out.drew, ?_⟩
                      (repeat (first | (refine qs_now (v := ?_) (by rfl) ?_ ?_; rotate_left 1; (· (intro w' hS; go_simp; (try (simp only [↓IntWalk.iteOmega]; go_simp)); (try simp (disch := omega) only [IntWalk.i64_in]); try with_reducible rfl)); simp only [Act.put, List.setIfInBounds_toArray, List.set_cons_zero, List.set_cons_succ]) | (refine qs_run (v := ?_) (by rfl) ?_ ?_; rotate_left 1; (· (intro j w' hS; go_simp; (try (simp only [↓IntWalk.iteOmega]; go_simp)); (try simp (disch := omega) only [IntWalk.i64_in]); try with_reducible rfl)); simp only [Act.put, List.setIfInBounds_toArray, List.set_cons_zero, List.set_cons_succ]) | (refine qs_mid (v := ?_) (by rfl) ?_ ?_; rotate_left 1; (· (intro j w' hj1 hj2 hS; go_simp; (try (simp only [↓IntWalk.iteOmega]; go_simp)); (try simp (disch := omega) only [IntWalk.i64_in]); try with_reducible rfl)); simp only [Act.put, List.setIfInBounds_toArray, List.set_cons_zero, List.set_cons_succ]) | (refine qs_skip (by rfl) ?_; simp only [Act.put, List.setIfInBounds_toArray, List.set_cons_zero, List.set_cons_succ])))
                      refine qs_nil ?_
                      go_wp2_with fail
                      go_ret
                      exact ⟨⟨false, rfl, by constructor
                                             · intro h; cases h
                                             · intro h; exact absurd h HF.out⟩, L7.out.drew⟩
                · have e2 : (x.kind == 2) = false := beq_eq_false_iff_ne.2 h2
                  have HF := Lib.hid (HOk.out (by unfold okR; rw [if_neg h1, if_neg h2]))
                  clear h1 h2
                  go_wp2_with fail
                  go_roundg (g0 - 1)
                  case measure => have h := HG.out; omega
                  case rel => have h := HG.out; exact ⟨i + 1, by congr 1, by omega, by omega, by omega, HF.out, LK.out⟩
      · have hiI : ¬ (i : Int) < (n : Int) := by omega
        have HF := Lib.hid (show MkR units l from ⟨HP8.out, fun q hq hl => HPre.out q (by rw [HL.out] at hq; omega) hl⟩)
        go_wp2_with fail
        go_ret
        exact ⟨⟨true, rfl, fun _ => HF.out, fun _ => rfl⟩, LB.out⟩
end Go.Proofs.YtgjjdfhoakailaaGreat
namespace Go.Proofs.YtgjjdfhoakailaaGreat
open Go.RowKit Go.Maps Go.Sort Go.Shelf
set_option linter.unusedVariables false
set_option linter.unusedSimpArgs false

theorem right_same (i : It) : rightR i = rightI i := by
  obtain ⟨k, K, p, s, u, sl⟩ := i
  rw [Bool.eq_iff_iff]
  unfold rightR rightI fineI bareI placeB sliceB
  by_cases h1 : k = 1
  · subst h1
    simp only [↓reduceIte, Bool.and_eq_true, decide_eq_true_eq, It.mk.injEq, true_and]
    constructor
    · rintro ⟨⟨⟨⟨⟨⟨a, b⟩, c⟩, d⟩, e⟩, f⟩, g⟩
      exact ⟨⟨⟨⟨a, b⟩, c⟩, d⟩, e.symm, f.symm, g.symm⟩
    · rintro ⟨⟨⟨⟨a, b⟩, c⟩, d⟩, e, f, g⟩
      exact ⟨⟨⟨⟨⟨⟨a, b⟩, c⟩, d⟩, e.symm⟩, f.symm⟩, g.symm⟩
  · by_cases h2 : k = 2
    · subst h2
      simp only [↓reduceIte, Int.reduceEq, Bool.and_eq_true, decide_eq_true_eq, It.mk.injEq, true_and, and_true]
      constructor
      · rintro ⟨⟨⟨⟨a, b⟩, c, d⟩, e⟩, f⟩
        exact ⟨⟨⟨⟨a, b⟩, c⟩, d⟩, e.symm, f.symm⟩
      · rintro ⟨⟨⟨⟨a, b⟩, c⟩, d⟩, e, f⟩
        exact ⟨⟨⟨⟨a, b⟩, c, d⟩, e.symm⟩, f.symm⟩
    · by_cases h3 : k = 3
      · subst h3
        simp only [↓reduceIte, Int.reduceEq, Bool.and_eq_true, decide_eq_true_eq, It.mk.injEq, true_and, and_true]
        constructor
        · rintro ⟨⟨⟨⟨a, b⟩, c⟩, d⟩, e⟩
          exact ⟨a, d.symm, e.symm, b.symm, c.symm⟩
        · rintro ⟨a, d, e, b, c⟩
          exact ⟨⟨⟨⟨a, b.symm⟩, c.symm⟩, d.symm⟩, e.symm⟩
      · simp only [h1, h2, h3, if_false, Bool.false_and]
theorem right_unit {i : It} (h : rightI i = true) (hk : i.kind = 3) : i.unit = 0 ∧ i.sl = zSl ∧ i.key = zKey ∧ i.pl = zPl ∧ 1 ≤ i.snap ∧ i.snap ≤ 1073741824 := by
  rw [← right_same] at h
  unfold rightR inB at h
  rw [if_neg (by omega), if_neg (by omega), if_pos hk] at h
  simp only [Bool.and_eq_true, decide_eq_true_eq] at h
  exact ⟨h.1.1.1.2, h.1.1.2, h.1.2, h.2, h.1.1.1.1⟩
theorem right_kinds {i : It} (h : rightI i = true) : i.kind = 1 ∨ i.kind = 2 ∨ i.kind = 3 := by
  rw [← right_same] at h
  unfold rightR at h
  by_cases h1 : i.kind = 1
  · exact .inl h1
  · by_cases h2 : i.kind = 2
    · exact .inr (.inl h2)
    · by_cases h3 : i.kind = 3
      · exact .inr (.inr h3)
      · rw [if_neg h1, if_neg h2, if_neg h3] at h
        cases h
theorem alike_st {a b : It} (ha : ItB a) (hb : ItB b) (ra : rightI a = true) (rb : rightI b = true) : alikeB a b = true ↔ stT a = stT b := by
  have hA := stands_ok ha
  have hB := stands_ok hb
  have e1 : stT a = stT b ↔ standsI a = standsI b := ⟨fun h => mkTh_inj hA hB h, fun h => by unfold stT; rw [h]⟩
  rw [e1]
  unfold alikeB standsI
  by_cases hk : a.kind = b.kind
  · rw [decide_eq_true hk, Bool.true_and]
    by_cases h1 : a.kind = 1
    · have h1' : b.kind = 1 := by omega
      simp only [if_pos h1, if_pos h1', decide_eq_true_eq, Th.mk.injEq, hk, true_and, and_true]
    · have h1' : ¬ b.kind = 1 := by omega
      simp only [if_neg h1, if_neg h1', Th.mk.injEq, hk, true_and]
      by_cases h2 : b.kind = 2
      · simp only [if_pos h2, Bool.and_eq_true, decide_eq_true_eq]
      · have h3 : a.kind = 3 := by have := right_kinds ra; omega
        have u1 := (right_unit ra h3).1
        have u2 := (right_unit rb (by omega)).1
        simp only [if_neg h2, decide_eq_true_eq, u1, u2, and_true]
  · rw [decide_eq_false hk, Bool.false_and]
    constructor
    · intro h; cases h
    · intro h
      exfalso
      apply hk
      by_cases h1 : a.kind = 1
      · rw [if_pos h1] at h
        by_cases h2 : b.kind = 1
        · omega
        · rw [if_neg h2] at h
          exact congrArg Th.kind h
      · rw [if_neg h1] at h
        by_cases h2 : b.kind = 1
        · rw [if_pos h2] at h
          exact congrArg Th.kind h
        · rw [if_neg h2] at h
          exact congrArg Th.kind h
theorem stT_thE {x : It} (hx : ItB x) {K : Key} : stT x = thE K ↔ (x.kind = 1 ∧ x.key = K) := by
  constructor
  · intro h
    have h2 := mkTh_inj (stands_ok hx) (thE_ok K) h
    unfold standsI at h2
    by_cases h1 : x.kind = 1
    · rw [if_pos h1] at h2
      exact ⟨h1, congrArg Th.key h2⟩
    · rw [if_neg h1] at h2
      exact absurd (congrArg Th.kind h2) h1
  · rintro ⟨h1, h2⟩
    unfold stT thE standsI
    rw [if_pos h1, h1, h2]
theorem seen_ext {l : List It} (hb : ∀ i ∈ l, ItB i) (hn : (l.map stT).Nodup) (K : Key) : aget (seenM l) (thE K) = extI l K := by
  unfold extI
  cases hf : l.find? (isExt K) with
  | none =>
    refine seenM_none (fun x hx h => ?_)
    have h1 := (stT_thE (hb x hx)).1 h
    have h2 := List.find?_eq_none.1 hf x hx
    apply h2
    unfold isExt
    simp [h1.1, h1.2]
  | some x =>
    have hx := List.mem_of_find?_eq_some hf
    have h1 := List.find?_some hf
    unfold isExt at h1
    simp only [Bool.and_eq_true, beq_iff_eq, decide_eq_true_eq] at h1
    rw [← (stT_thE (hb x hx)).2 h1]
    exact seenM_get hn hx
theorem seen_snap {l : List It} (hb : ∀ i ∈ l, ItB i) (hr : ∀ i ∈ l, rightI i = true) {s : Int} (hs : i64B s) : (aget (seenM l) (thS s)).isSome = snapB l s := by
  rw [seenM_some, Bool.eq_iff_iff, decide_eq_true_eq]
  unfold snapB
  rw [List.any_eq_true, List.mem_map]
  have hok : ThOk ⟨3, zKey, s, 0⟩ := ⟨by simp, hs, i64B_zero⟩
  constructor
  · rintro ⟨x, hx, h⟩
    have h2 := mkTh_inj (stands_ok (hb x hx)) hok h
    unfold standsI at h2
    refine ⟨x, hx, ?_⟩
    by_cases h1 : x.kind = 1
    · rw [if_pos h1, h1] at h2
      exact absurd (congrArg Th.kind h2) (show ¬ (1 : Int) = 3 by decide)
    · rw [if_neg h1] at h2
      have e1 : x.kind = 3 := congrArg Th.kind h2
      have e2 : x.snap = s := congrArg Th.snap h2
      simp [e1, e2]
  · rintro ⟨x, hx, h⟩
    simp only [Bool.and_eq_true, beq_iff_eq, decide_eq_true_eq] at h
    refine ⟨x, hx, ?_⟩
    have hu := (right_unit (hr x hx) h.1).1
    unfold stT thS standsI
    rw [if_neg (by omega), h.1, h.2, hu]
theorem ok_same {units : Int} {l : List It} (hb : ∀ i ∈ l, ItB i) (hr : ∀ i ∈ l, rightI i = true) (hn : (l.map stT).Nodup) {i : It} (hi : i ∈ l) : okR units l i = okI units l i := by
  unfold okR okI
  rw [seen_ext hb hn, seen_snap hb hr (hb i hi).2.2.1]
  by_cases h1 : i.kind = 1
  · rw [if_pos h1, if_pos h1]
  · rw [if_neg h1, if_neg h1]
    by_cases h2 : i.kind = 2
    · rw [if_pos h2, if_pos h2]
      cases extI l i.sl.key <;> rfl
    · rw [if_neg h2, if_neg h2]
theorem mk_iff {units : Int} {l : List It} (hb : ∀ i ∈ l, ItB i) : MkR units l ↔ makesB units l = true := by
  unfold MkR makesB
  simp only [Bool.and_eq_true, decide_eq_true_eq, List.all_eq_true]
  have hnd : (∀ i ∈ l, rightI i = true) → ((l.map stT).Nodup ↔ ∀ q (hq : q < l.length), ∀ k (hk : k < q), alikeB l[q] (l[k]'(Nat.lt_trans hk hq)) = false) := fun hr => by
    rw [List.Nodup, List.pairwise_map, List.pairwise_iff_getElem]
    constructor
    · intro h q hq k hk
      have h1 := h k q (Nat.lt_trans hk hq) hq hk
      cases ha : alikeB l[q] (l[k]'(Nat.lt_trans hk hq)) with
      | false => rfl
      | true => exact absurd ((alike_st (hb _ (List.getElem_mem _)) (hb _ (List.getElem_mem _)) (hr _ (List.getElem_mem _)) (hr _ (List.getElem_mem _))).1 ha).symm h1
    · intro h k q hk hq hkq e
      have h1 := h q hq k hkq
      rw [(alike_st (hb _ (List.getElem_mem _)) (hb _ (List.getElem_mem _)) (hr _ (List.getElem_mem _)) (hr _ (List.getElem_mem _))).2 e.symm] at h1
      cases h1
  constructor
  · rintro ⟨h8, hp⟩
    have hr : ∀ i ∈ l, rightI i = true := fun i hi => by
      obtain ⟨q, hq, rfl⟩ := List.mem_iff_getElem.1 hi
      rw [← right_same]
      exact (hp q hq hq).1
    have hn := (hnd hr).2 (fun q hq => (hp q hq hq).2.1)
    refine ⟨⟨⟨hr, hn⟩, fun i hi => ?_⟩, h8⟩
    obtain ⟨q, hq, rfl⟩ := List.mem_iff_getElem.1 hi
    rw [← ok_same hb hr hn hi]
    exact (hp q hq hq).2.2
  · rintro ⟨⟨⟨hr, hn⟩, ho⟩, h8⟩
    refine ⟨h8, fun q _ hq => ⟨?_, (hnd hr).1 hn q hq, ?_⟩⟩
    · rw [right_same]
      exact hr _ (List.getElem_mem hq)
    · rw [ok_same hb hr hn (List.getElem_mem hq)]
      exact ho _ (List.getElem_mem hq)
def OfRPost (u : Int) (l : List It) (m : Nat) (w : World) (e : Ending) (w' : World) : Prop :=
  (((u < 1 ∨ 512 < u) ∧ e = .returned (.tuple #[.pointer none, .int .i64 2])) ∨
  ((1 ≤ u ∧ u ≤ 512) ∧ makesB u l = false ∧ e = .returned (.tuple #[.pointer none, .int .i64 4])) ∨
  ((1 ≤ u ∧ u ≤ 512) ∧ makesB u l = true ∧ ∃ xs A c, e = .returned (.tuple #[.pointer (some ⟨xs, 0, none⟩), .int .i64 0]) ∧ RfIs w' w.heap.size xs u.toNat m c A l ∧ w.heap.size ≤ xs)) ∧ Below w.heap.size w w'
set_option maxRecDepth 100000 in
set_option maxHeartbeats 1000000 in
theorem rOf_any {w : World} {A : Option Addr} {n c : Nat} {l : List It} (h : Src w 73 (.slice A n c) n (itsC l)) (hl : l.length = n) (hn : n ≤ 1000000) (u : Int) (hb : ∀ i ∈ l, ItB i) :
    Calls Tryz.prog 12 #[.int .i64 u, .slice A n c] w (OfRPost u l n w) := by
  have H := Lib.hid h
  have HL := Lib.hid hl
  have HB := Lib.hid hb
  clear h hl hb
  by_cases h1 : u < 1
  · go_enter Tryz.func12, Tryz.ntmps12
    go_wp2_with fail
    go_ret2
    exact ⟨.inl ⟨.inl h1, rfl⟩, Below.refl _ _⟩
  · by_cases h2 : 512 < u
    · go_enter Tryz.func12, Tryz.ntmps12
      go_wp2_with fail
      go_ret2
      exact ⟨.inl ⟨.inr h2, rfl⟩, Below.refl _ _⟩
    · have HU := Lib.hid (show 1 ≤ u ∧ u ≤ 512 by omega)
      have HM := Lib.hid (mk_iff (units := u) HB.out)
      obtain ⟨mb, hmb⟩ : ∃ b, b = makesB u l := ⟨_, rfl⟩
      have HMb := Lib.hid hmb
      have HMk := Lib.hid (show Calls Tryz.prog 37 #[.int .i64 u, .slice A n c] w fun e w' => e = .returned (.bool mb) ∧ Below w.heap.size w w' from by
        refine (rMakes_any H.out HL.out hn u HB.out).mono ?_
        rintro e w' ⟨⟨b, rfl, hbb⟩, hb2⟩
        refine ⟨?_, hb2⟩
        have e1 : b = mb := by
          rw [hmb, Bool.eq_iff_iff, hbb, HM.out]
        rw [e1])
      clear hmb
      cases mb
      case false =>
        go_enter Tryz.func12, Tryz.ntmps12
        go_wp2_with (go_at_call 37; refine HMk.out.mono ?_; rintro e w1 ⟨rfl, hb⟩; have L1 := Lib.hid hb; clear hb)
        go_ret2
        exact ⟨.inr (.inl ⟨HU.out, HMb.out.symm, rfl⟩), L1.out⟩
      case true =>
        have hl2 := HL.out
        go_enter Tryz.func12, Tryz.ntmps12
        go_wp2_with (first
          | (go_at_call 37; refine HMk.out.mono ?_; rintro e w1 ⟨rfl, hb⟩; have L1 := Lib.hid hb; clear hb)
          | ((with_reducible show wpList _ _ _ (_ :: _) _ _); refine wpl_lit0 rfl 41 56 (by rfl) Tryz.underlying41 info_It w.heap.size L1.out.size ?_; intro v2 w2 ho hg; have O2 := Lib.hid ho; have L2 := Lib.hid (bl_n L1.out hg); clear ho hg; simp only [Act.put, List.setIfInBounds_toArray, List.set_cons_zero, List.set_cons_succ])
          | ((with_reducible show wpList _ _ _ (_ :: _) _ _); refine wpl_app_its rfl (.tmp 17) (.tmp 18) (by rfl) w.heap.size v2 [] (by rfl) O2.out _ l (by rfl) (by rw [HL.out]; exact H.out.below L2.out) (by simp; omega) L2.out.size ?_; intro v3 w3 ho hg; obtain ⟨A3, c3, hv3, _⟩ := own_slice ho; have hv4 : v3 = .slice A3 n c3 := (by rw [hv3]; rw [← HL.out]; rfl); clear hv3; subst hv4; have O3 := Lib.hid (show w3.ownsRow w.heap.size 56 73 (.slice A3 n c3) n (itsC l) from (by rw [← HL.out]; rw [← HL.out] at ho; exact ho)); have L3 := Lib.hid (L2.out.grown hg L2.out.size (fun k hk => (own_at O2.out k hk).1)); clear ho hg; simp only [Act.put, List.setIfInBounds_toArray, List.set_cons_zero, List.set_cons_succ])
          | ((with_reducible show wpList _ _ _ (_ :: _) _ _); refine wpl_mk rfl 80 #[(0, .tmp 16), (1, .tmp 19)] (by rfl) [(0, .int .i64 u), (1, .slice A3 n c3)] (by rfl) _ (built_rf u A3 n c3) ?_; simp only [Act.put, List.setIfInBounds_toArray, List.set_cons_zero, List.set_cons_succ])
          | ((with_reducible show wpList _ _ _ (_ :: _) _ _); refine wpl_box rfl 80 (.tmp 20) (by rfl) #[.int .i64 u, .slice A3 n c3] (by rfl) ?_; intro w4 hk hg hz; have K4 := Lib.hid hk; have L4 := Lib.hid (bl_n L3.out hg); have O4 := Lib.hid (own_belowR O3.out (bl_n (Below.refl _ w3) hg)); clear hk hg hz; simp only [Act.put, List.setIfInBounds_toArray, List.set_cons_zero, List.set_cons_succ]))
        go_ret2
        have e : ((u.toNat : Nat) : Int) = u := by have := HU.out; omega
        refine ⟨.inr (.inr ⟨HU.out, HMb.out.symm, w3.heap.size, A3, c3, rfl, ⟨?_, O4.out, HL.out, by have := HU.out; omega⟩, L3.out.size⟩), L4.out⟩
        rw [e]
        exact K4.out
end Go.Proofs.YtgjjdfhoakailaaGreat
namespace Go.Proofs.YtgjjdfhoakailaaGreat
open Go.RowKit Go.Maps Go.Sort Go.Shelf
set_option linter.unusedVariables false
set_option linter.unusedSimpArgs false

theorem ext_form {x : It} (h : rightI x = true) (hk : x.kind = 1) : x = exIt (x.key, x.pl) ∧ placeB x.pl true = true ∧ x.snap = 0 := by
  rw [← right_same] at h
  unfold rightR at h
  rw [if_pos hk] at h
  simp only [Bool.and_eq_true, decide_eq_true_eq] at h
  obtain ⟨⟨⟨h1, h2⟩, h3⟩, h4⟩ := h
  refine ⟨?_, h1, h2⟩
  cases x
  simp only [exIt, It.mk.injEq] at *
  exact ⟨hk, trivial, trivial, h2, h3, h4⟩
theorem sl_form {x : It} (h : rightI x = true) (hk : x.kind = 2) : (x = sI x.snap x.unit.toNat x.sl ∧ x.unit.toNat < 512) ∧ (0 ≤ x.snap ∧ x.snap ≤ 1073741824) ∧ (0 ≤ x.unit ∧ x.unit ≤ 511) ∧ 0 ≤ x.sl.off ∧ x.sl.off ≤ 15 ∧ 1 ≤ x.sl.mask ∧ x.sl.mask ≤ 255 := by
  rw [← right_same] at h
  unfold rightR sliceB inB at h
  rw [if_neg (by omega), if_pos hk] at h
  simp only [Bool.and_eq_true, decide_eq_true_eq] at h
  obtain ⟨⟨⟨⟨h1, h2⟩, h3, h4⟩, h5⟩, h6⟩ := h
  refine ⟨⟨?_, by omega⟩, h1, h2, h3.1, h3.2, h4.1, h4.2⟩
  cases x
  simp only [sI, It.mk.injEq] at *
  exact ⟨hk, h5, h6, trivial, by omega, trivial⟩
theorem sn_form {x : It} (h : rightI x = true) (hk : x.kind = 3) : x = snI x.snap := by
  have h1 := right_unit h hk
  cases x
  simp only [snI, It.mk.injEq] at *
  exact ⟨hk, h1.2.2.1, h1.2.2.2.1, trivial, h1.1, h1.2.1⟩
structure OfI (n : Nat) (p : List It) (t : Int) (E : ExM) (f : MpF) (M : SnM) : Prop where
  uniq : Uniq E
  uniqM : Uniq M
  ids : IdsR M
  ext : ∀ K q, aget E K = some q ↔ exIt (K, q) ∈ p
  cur : ∀ u s, (u < n ∧ s.mask ≠ 0 ∧ f u = s) ↔ sI t u s ∈ p
  old : ∀ q ∈ M, ∀ u s, (u < n ∧ s.mask ≠ 0 ∧ q.2.2 u = s) ↔ sI q.1 u s ∈ p
  done : ∀ x ∈ p, x.kind ≠ 1 → x.snap = t ∨ ∃ q ∈ M, q.1 = x.snap
  here : ∀ q ∈ M, ∃ x ∈ p, x.kind ≠ 1 ∧ x.snap = q.1
  low : ∀ q ∈ M, t < q.1
  t0 : 0 ≤ t ∧ t ≤ 1073741824
  mask : ∀ g, IsMap f M g → ∀ u, 0 ≤ (g u).mask ∧ (g u).mask ≤ 255
def Fresh0 (p : List It) (t : Int) (f : MpF) (M : SnM) : Prop := t = 0 ∧ M = [] ∧ (∀ u, (f u).mask = 0) ∧ ∀ y ∈ p, y.kind = 1
def Reach (p : List It) (t : Int) : Prop := ∃ y ∈ p, y.kind ≠ 1 ∧ y.snap = t
theorem OfI.start (n : Nat) : OfI n [] 0 [] zF [] ∧ Fresh0 [] 0 zF [] := by
  refine ⟨⟨List.Pairwise.nil, List.Pairwise.nil, (by intro q hq; cases hq), ?_, ?_, (by intro q hq; cases hq), (by intro x hx; cases hx), (by intro q hq; cases hq), (by intro q hq; cases hq), (by omega), ?_⟩, rfl, rfl, fun u => rfl, (by intro x hx; cases hx)⟩
  · intro K q; simp [aget]
  · intro u s
    constructor
    · rintro ⟨_, h1, h2⟩
      rw [← h2] at h1
      exact absurd rfl h1
    · intro h; cases h
  · rintro g (rfl | ⟨q, hq, _⟩) u
    · exact ⟨Int.le_refl _, show (0 : Int) ≤ 255 by omega⟩
    · cases hq
section
variable {n : Nat} {p : List It} {t : Int} {E : ExM} {f : MpF} {M : SnM}
/-- An extent. -/
theorem OfI.extE (h : OfI n p t E f M) {x : It} (hr : rightI x = true) (hk : x.kind = 1) (hn : aget E x.key = none) : OfI n (p ++ [x]) t (addX E x.key x.pl) f M := by
  obtain ⟨hx, hp, hs⟩ := ext_form hr hk
  have he : addE E x.key x.pl = 0 := by
    unfold addE
    have hm : mayP x.pl = true := by
      unfold placeB inB at hp
      unfold mayP
      simp only [if_true, Bool.and_eq_true, decide_eq_true_eq] at hp ⊢
      omega
    rw [hm, hn]
    rfl
  have e1 : addX E x.key x.pl = aput E x.key x.pl := by unfold addX; rw [if_pos he]
  rw [e1]
  have nosl : ∀ (i : Int) (u : Nat) (s : Sl), sI i u s ∈ p ++ [x] ↔ sI i u s ∈ p := fun i u s => by
    rw [List.mem_append, List.mem_singleton]
    constructor
    · rintro (h | h)
      · exact h
      · exact absurd (congrArg It.kind h) (by rw [hk]; exact (show ¬ (2 : Int) = 1 by decide))
    · exact .inl
  refine ⟨h.uniq.put _ _, h.uniqM, h.ids, fun K q => ?_, fun u s => by rw [nosl]; exact h.cur u s, fun q hq u s => by rw [nosl]; exact h.old q hq u s, fun y hy hyk => ?_, fun q hq => ?_, h.low, h.t0, h.mask⟩
  · rw [aget_put, List.mem_append, List.mem_singleton]
    by_cases hK : x.key = K
    · rw [if_pos hK]
      constructor
      · intro e
        injection e with e
        right
        rw [hx, ← hK, ← e]
      · rintro (hm | hm)
        · have := (h.ext K q).2 hm
          rw [← hK, hn] at this
          cases this
        · have : x.pl = q := by rw [← hm]; rfl
          rw [this]
    · rw [if_neg hK, h.ext]
      constructor
      · exact .inl
      · rintro (hm | hm)
        · exact hm
        · exact absurd (by rw [← hm]; rfl) hK
  · rcases List.mem_append.1 hy with hy | hy
    · exact h.done y hy hyk
    · rw [List.mem_singleton] at hy
      rw [hy] at hyk
      exact absurd hk hyk
  · obtain ⟨y, hy, h1⟩ := h.here q hq
    exact ⟨y, List.mem_append_left _ hy, h1⟩
/-- A slice of the map at hand. -/
theorem OfI.setS (h : OfI n p t E f M) {x : It} (hr : rightI x = true) (hk : x.kind = 2) (ht : x.snap = t) (hu : x.unit < n) (hnew : ∀ s, sI t x.unit.toNat s ∉ p) : OfI n (p ++ [x]) t E (setF n f x.unit x.sl) M := by
  obtain ⟨⟨hx, h512⟩, hs, hun, ho1, ho2, hm1, hm2⟩ := sl_form hr hk
  have e1 : setF n f x.unit x.sl = upd f x.unit.toNat x.sl := by
    unfold setF setE
    rw [if_pos (by rw [if_pos (by omega)])]
  rw [e1]
  have hxt : x = sI t x.unit.toNat x.sl := by rw [← ht]; exact hx
  have hlt := h.low
  refine ⟨h.uniq, h.uniqM, h.ids, fun K q => ?_, fun u s => ?_, fun q hq u s => ?_, fun y hy hyk => ?_, fun q hq => ?_, h.low, h.t0, ?_⟩
  · rw [h.ext, List.mem_append, List.mem_singleton]
    constructor
    · exact .inl
    · rintro (hm | hm)
      · exact hm
      · exact absurd (congrArg It.kind hm) (by rw [hk]; exact (show ¬ (1 : Int) = 2 by decide))
  · rw [List.mem_append, List.mem_singleton]
    unfold upd
    by_cases hue : u = x.unit.toNat
    · subst hue
      rw [if_pos rfl]
      constructor
      · rintro ⟨_, _, e⟩
        right
        rw [hxt, ← e]
        rfl
      · rintro (hm | hm)
        · exact absurd hm (hnew s)
        · have e : s = x.sl := by
            have := congrArg It.sl hm
            exact this
          exact ⟨by omega, by rw [e]; omega, e.symm⟩
    · rw [if_neg hue, h.cur]
      constructor
      · exact .inl
      · rintro (hm | hm)
        · exact hm
        · rw [hxt] at hm
          exact absurd (sI_inj hm).2.1 hue
  · rw [h.old q hq, List.mem_append, List.mem_singleton]
    constructor
    · exact .inl
    · rintro (hm | hm)
      · exact hm
      · rw [hxt] at hm
        have := (sI_inj hm).1
        have := hlt q hq
        omega
  · rcases List.mem_append.1 hy with hy | hy
    · exact h.done y hy hyk
    · rw [List.mem_singleton] at hy
      rw [hy]
      exact .inl ht
  · obtain ⟨y, hy, h1⟩ := h.here q hq
    exact ⟨y, List.mem_append_left _ hy, h1⟩
  · rintro g (rfl | ⟨q, hq, rfl⟩) u
    · unfold upd
      split
      · omega
      · exact h.mask f (.inl rfl) u
    · exact h.mask _ (.inr ⟨q, hq, rfl⟩) u
/-- A snapshot's item. -/
theorem OfI.addN (h : OfI n p t E f M) {x : It} (hr : rightI x = true) (hk : x.kind = 3) (ht : x.snap = t) : OfI n (p ++ [x]) t E f M := by
  have nosl : ∀ (i : Int) (u : Nat) (s : Sl), sI i u s ∈ p ++ [x] ↔ sI i u s ∈ p := fun i u s => by
    rw [List.mem_append, List.mem_singleton]
    constructor
    · rintro (h | h)
      · exact h
      · exact absurd (congrArg It.kind h) (by rw [hk]; exact (show ¬ (2 : Int) = 3 by decide))
    · exact .inl
  refine ⟨h.uniq, h.uniqM, h.ids, fun K q => ?_, fun u s => by rw [nosl]; exact h.cur u s, fun q hq u s => by rw [nosl]; exact h.old q hq u s, fun y hy hyk => ?_, fun q hq => ?_, h.low, h.t0, h.mask⟩
  · rw [h.ext, List.mem_append, List.mem_singleton]
    constructor
    · exact .inl
    · rintro (hm | hm)
      · exact hm
      · exact absurd (congrArg It.kind hm) (by rw [hk]; exact (show ¬ (1 : Int) = 3 by decide))
  · rcases List.mem_append.1 hy with hy | hy
    · exact h.done y hy hyk
    · rw [List.mem_singleton] at hy
      rw [hy]
      exact .inl ht
  · obtain ⟨y, hy, h1⟩ := h.here q hq
    exact ⟨y, List.mem_append_left _ hy, h1⟩
theorem bit_full : ∀ m, m < 256 → anM ((m : Nat) : Int) ((2 : Int) ^ 8 - (2 : Int) ^ 0) = 0 := by decide +kernel
theorem clr_all (hn : n ≤ 512) (hm : ∀ u, 0 ≤ (f u).mask ∧ (f u).mask ≤ 255) : clrE n 0 ((n : Int) * 8) = 0 ∧ ∀ u, (u < n → (clrF n f 0 ((n : Int) * 8) u).mask = 0) ∧ 0 ≤ (clrF n f 0 ((n : Int) * 8) u).mask ∧ (clrF n f 0 ((n : Int) * 8) u).mask ≤ 255 := by
  have hc : clrE n 0 ((n : Int) * 8) = 0 := by unfold clrE; rw [if_neg (by omega)]
  refine ⟨hc, fun u => ?_⟩
  have hs : SubSl (clrF n f 0 ((n : Int) * 8) u) (f u) := by
    unfold clrF
    rw [if_pos hc]
    exact clrGo_sub _ f _ _ hm u
  have h1 := hs.1
  have h2 := hs.2.1
  have h3 := hm u
  refine ⟨fun hu => ?_, by omega, by omega⟩
  have hb := (clr_bits (Int.le_refl 0) (by omega) hc u h3).1
  rw [hb]
  have e1 : bitGo (u : Int) 0 (0 + (n : Int) * 8) 8 (f u).mask = bitF 0 8 8 (f u).mask := bit_go (fun k hk => by omega) 8 (by omega)
  rw [e1]
  have e2 := bit_all (f u).mask.toNat (by omega) 8 (by omega) 0 (by omega) (by omega)
  have e3 := bit_full (f u).mask.toNat (by omega)
  have e4 : (((f u).mask.toNat : Nat) : Int) = (f u).mask := by omega
  rw [e4] at e2 e3
  rw [← e2, e3]
/-- A map is whole, and becomes a snapshot. -/
theorem OfI.end_ (hn : n ≤ 512) (h : OfI n p t E f M) (ht : t ≠ 0) (hR : Reach p t) {t' : Int} (h' : 0 ≤ t' ∧ t' < t) (v : Nat) : aget M t = none ∧ OfI n p t' E (clrF n f 0 ((n : Int) * 8)) (aput M t (v, f)) := by
  have hg : aget M t = none := by
    cases hg : aget M t with
    | none => rfl
    | some q =>
      have := h.low _ (aget_mem hg)
      simp only at this
      omega
  have hmask := clr_all (n := n) (f := f) hn (h.mask f (.inl rfl))
  have hid : 1 ≤ t ∧ t ≤ 1073741824 := by have := h.t0; omega
  refine ⟨hg, h.uniq, h.uniqM.put _ _, put_ids hid h.ids, h.ext, fun u s => ?_, fun q hq u s => ?_, fun x hx hxk => ?_, fun q hq => ?_, fun q hq => ?_, (by have := h.t0; omega), ?_⟩
  · constructor
    · rintro ⟨h1, h2, h3⟩
      rw [← h3] at h2
      exact absurd ((hmask.2 u).1 h1) h2
    · intro hm
      exfalso
      rcases h.done _ hm (show ¬ (2 : Int) = 1 by decide) with e | ⟨q, hq, e⟩
      · have : t' = t := e
        omega
      · have h1 : q.1 = t' := e
        have := h.low q hq
        omega
  · rcases (mem_put hg).1 hq with rfl | hq
    · exact h.cur u s
    · exact h.old q hq u s
  · rcases h.done x hx hxk with e | ⟨q, hq, e⟩
    · exact .inr ⟨_, (mem_put hg).2 (.inl rfl), e.symm⟩
    · exact .inr ⟨q, (mem_put hg).2 (.inr hq), e⟩
  · rcases (mem_put hg).1 hq with rfl | hq
    · exact hR
    · exact h.here q hq
  · rcases (mem_put hg).1 hq with rfl | hq
    · exact h'.2
    · have := h.low q hq; omega
  · rintro g (rfl | ⟨q, hq, rfl⟩) u
    · exact (hmask.2 u).2
    · rcases (mem_put hg).1 hq with rfl | hq
      · exact h.mask f (.inl rfl) u
      · exact h.mask _ (.inr ⟨q, hq, rfl⟩) u
/-- Nothing yet but extents. -/
theorem OfI.begin_ (h : OfI n p t E f M) (hF : Fresh0 p t f M) {t' : Int} (h' : 0 ≤ t' ∧ t' ≤ 1073741824) : OfI n p t' E f M := by
  obtain ⟨ht, hM, hf, hp⟩ := hF
  subst hM
  refine ⟨h.uniq, h.uniqM, h.ids, h.ext, fun u s => ?_, (by intro q hq; cases hq), fun x hx hxk => absurd (hp x hx) hxk, (by intro q hq; cases hq), (by intro q hq; cases hq), h', h.mask⟩
  constructor
  · rintro ⟨_, h2, h3⟩
    rw [← h3] at h2
    exact absurd (hf u) h2
  · intro hm
    exact absurd (hp _ hm) (show ¬ (2 : Int) = 1 by decide)
end
end Go.Proofs.YtgjjdfhoakailaaGreat
namespace Go.Proofs.YtgjjdfhoakailaaGreat
open Go.RowKit Go.Maps Go.Sort Go.Shelf
set_option linter.unusedVariables false
set_option linter.unusedSimpArgs false

theorem nodup_sub {α : Type} [BEq α] [LawfulBEq α] : ∀ (A B : List α), A.Nodup → (∀ x ∈ A, x ∈ B) → A.length ≤ B.length
  | [], _, _, _ => by simp
  | a :: A, B, hn, hs => by
    obtain ⟨h1, h2⟩ := List.nodup_cons.1 hn
    have ha : a ∈ B := hs a (List.mem_cons_self ..)
    have ih := nodup_sub A (B.erase a) h2 (fun x hx => (List.mem_erase_of_ne (fun e : x = a => h1 (by rw [← e]; exact hx))).2 (hs x (List.mem_cons_of_mem _ hx)))
    rw [List.length_erase_of_mem ha] at ih
    have := List.length_pos_of_mem ha
    rw [List.length_cons]
    omega
/-- What makes asks, one by one. -/
structure MkOk (n : Nat) (l : List It) : Prop where
  b : ∀ i ∈ l, ItB i
  right : ∀ i ∈ l, rightI i = true
  nd : (l.map stT).Nodup
  ok : ∀ i ∈ l, okI (n : Int) l i = true
  few : snapsN l ≤ 8
theorem MkOk.of {n : Nat} {l : List It} (hb : ∀ i ∈ l, ItB i) (h : makesB (n : Int) l = true) : MkOk n l := by
  unfold makesB at h
  simp only [Bool.and_eq_true, decide_eq_true_eq, List.all_eq_true] at h
  exact ⟨hb, h.1.1.1, h.1.1.2, h.1.2, h.2⟩
section
variable {n : Nat} {l p : List It} {t : Int} {E : ExM} {f : MpF} {M : SnM}
theorem MkOk.there (h : MkOk n l) {y : It} (hy : y ∈ l) (hk : y.kind ≠ 1) (hs : y.snap ≠ 0) : snI y.snap ∈ l := by
  rcases right_kinds (h.right y hy) with h1 | h2 | h3
  · exact absurd h1 hk
  · have hf := sl_form (h.right y hy) h2
    have ho := h.ok y hy
    unfold okI at ho
    rw [if_neg hk, if_pos h2] at ho
    cases hg : aget (seenM l) (thE y.sl.key) with
    | none => rw [hg] at ho; cases ho
    | some z =>
      rw [hg] at ho
      simp only [Bool.and_eq_true, Bool.or_eq_true, decide_eq_true_eq] at ho
      rcases ho.2 with h4 | h4
      · omega
      · rw [seen_snap h.b h.right (h.b y hy).2.2.1] at h4
        unfold snapB at h4
        obtain ⟨z, hz, hzk⟩ := List.any_eq_true.1 h4
        simp only [Bool.and_eq_true, beq_iff_eq, decide_eq_true_eq] at hzk
        have := sn_form (h.right z hz) hzk.1
        rw [hzk.2] at this
        rw [← this]
        exact hz
  · rw [← sn_form (h.right y hy) h3]
    exact hy
theorem ids_few (h : MkOk n l) {M : SnM} (hu : Uniq M) (hM : ∀ q ∈ M, snI q.1 ∈ l) : M.length ≤ 8 := by
  have h1 : (M.map (fun q => snI q.1)).Nodup := by
    have h2 := uniq_nodup hu
    refine List.pairwise_map.2 ((List.pairwise_map.1 h2).imp (fun {a b} h e => h ?_))
    exact congrArg It.snap e
  have h3 := nodup_sub (M.map (fun q => snI q.1)) (l.filter (fun i => i.kind == 3)) h1 (fun x hx => by
    obtain ⟨q, hq, rfl⟩ := List.mem_map.1 hx
    exact List.mem_filter.2 ⟨hM q hq, rfl⟩)
  rw [List.length_map] at h3
  have := h.few
  unfold snapsN at this
  omega
theorem OfI.snapOk (h : OfI n p t E f M) (hm : MkOk n l) (hp : ∀ x ∈ p, x ∈ l) (ht : t ≠ 0) (hR : Reach p t) : snapE M t = 0 := by
  have hg : aget M t = none := by
    cases hg : aget M t with
    | none => rfl
    | some q =>
      have := h.low _ (aget_mem hg)
      simp only at this
      omega
  have hlen := ids_few hm (M := aput M t (0, f)) (h.uniqM.put _ _) (fun q hq => by
    rcases (mem_put hg).1 hq with rfl | hq
    · obtain ⟨y, hy, h1, h2⟩ := hR
      rw [← h2]
      exact hm.there (hp y hy) h1 (by omega)
    · obtain ⟨y, hy, h1, h2⟩ := h.here q hq
      rw [← h2]
      have := h.ids q hq
      exact hm.there (hp y hy) h1 (by omega))
  have e : (aput M t (0, f)).length = M.length + 1 := by unfold aput; rw [adel_none hg]; rfl
  rw [e] at hlen
  have h0 := h.t0
  unfold snapE
  rw [if_neg (by omega), hg]
  simp only [Option.isSome_none, Bool.false_eq_true, if_false]
  rw [if_neg (by omega)]
theorem OfI.final (hn : n ≤ 512) (h : OfI n p 0 E f M) (hm : MkOk n l) (hp : p.Perm l) : l.Perm (stItems n E f M) ∧ Inv n E f M := by
  have hz : IdsR M := h.ids
  have hpl : ∀ {x : It}, x ∈ p ↔ x ∈ l := fun {x} => hp.mem_iff
  have hperm : l.Perm (stItems n E f M) := by
    refine perm_of (nd_of_st hm.nd) (st_nd hn f h.uniq h.uniqM hz) (fun x => ?_)
    rw [st_mem h.uniqM hz]
    constructor
    · intro hx
      have hr := hm.right x hx
      rcases right_kinds hr with h1 | h2 | h3
      · have hf := (ext_form hr h1).1
        refine .inl ⟨(x.key, x.pl), aget_mem ((h.ext x.key x.pl).2 ?_), hf⟩
        rw [← hf]
        exact hpl.2 hx
      · have hf := sl_form hr h2
        rcases h.done x (hpl.2 hx) (by omega) with e | ⟨q, hq, e⟩
        · have hin : sI 0 x.unit.toNat x.sl ∈ p := by
            have h4 := hf.1.1
            rw [e] at h4
            rw [← h4]
            exact hpl.2 hx
          obtain ⟨h5, h6, h7⟩ := (h.cur x.unit.toNat x.sl).2 hin
          refine .inr (.inl ⟨x.unit.toNat, h5, by rw [h7]; exact h6, ?_⟩)
          rw [h7]
          have h4 := hf.1.1
          rw [e] at h4
          exact h4
        · have hin : sI q.1 x.unit.toNat x.sl ∈ p := by
            rw [e, ← hf.1.1]
            exact hpl.2 hx
          obtain ⟨h5, h6, h7⟩ := (h.old q hq x.unit.toNat x.sl).2 hin
          refine .inr (.inr (.inl ⟨q, hq, x.unit.toNat, h5, by rw [h7]; exact h6, ?_⟩))
          rw [h7, e]
          exact hf.1.1
      · have hf := sn_form hr h3
        have hu := right_unit hr h3
        rcases h.done x (hpl.2 hx) (by omega) with e | ⟨q, hq, e⟩
        · omega
        · refine .inr (.inr (.inr ⟨q, hq, ?_⟩))
          rw [e]
          exact hf
    · rintro (⟨q, hq, rfl⟩ | ⟨u, hu, k, rfl⟩ | ⟨q, hq, u, hu, k, rfl⟩ | ⟨q, hq, rfl⟩)
      · exact hpl.1 ((h.ext q.1 q.2).1 (aget_of_mem h.uniq hq))
      · exact hpl.1 ((h.cur u (f u)).1 ⟨hu, k, rfl⟩)
      · exact hpl.1 ((h.old q hq u _).1 ⟨hu, k, rfl⟩)
      · obtain ⟨y, hy, h1, h2⟩ := h.here q hq
        rw [← h2]
        have := h.ids q hq
        exact hm.there (hpl.1 hy) h1 (by omega)
  refine ⟨hperm, h.uniq, h.uniqM, h.ids, ?_, fun K q hq => ?_, fun K q hq => ?_, fun g hg u hu hmk => ?_, h.mask⟩
  · rw [← snaps_perm hperm]
    exact hm.few
  · have hx := hpl.1 ((h.ext K q).1 hq)
    have ho := hm.ok _ hx
    have hf := ext_form (hm.right _ hx) rfl
    unfold okI at ho
    rw [if_pos (show (exIt (K, q)).kind = 1 from rfl), decide_eq_true_eq] at ho
    have h1 : cntI l K = q.ref := ho
    rw [Perm.cnt hperm, cnt_stItems] at h1
    have h2 := hf.2.1
    unfold placeB inB at h2
    simp only [if_true, Bool.and_eq_true, decide_eq_true_eq] at h2
    have h3 : 1 ≤ (exIt (K, q)).pl.ref := h2.2.1
    exact ⟨h1.symm, h3⟩
  · have hx := hpl.1 ((h.ext K q).1 hq)
    have h2 := (ext_form (hm.right _ hx) rfl).2.1
    have h3 : placeB q true = true := h2
    unfold placeB inB at h3
    unfold mayP
    simp only [if_true, Bool.and_eq_true, decide_eq_true_eq] at h3 ⊢
    omega
  · obtain ⟨id, hx⟩ : ∃ id, sI id u (g u) ∈ l := by
      rcases hg with rfl | ⟨q, hq, rfl⟩
      · exact ⟨0, hpl.1 ((h.cur u _).1 ⟨hu, hmk, rfl⟩)⟩
      · exact ⟨q.1, hpl.1 ((h.old q hq u _).1 ⟨hu, hmk, rfl⟩)⟩
    have hf := sl_form (hm.right _ hx) rfl
    have ho := hm.ok _ hx
    unfold okI at ho
    rw [if_neg (show ¬ (sI id u (g u)).kind = 1 from (show ¬ (2 : Int) = 1 by decide)), if_pos (show (sI id u (g u)).kind = 2 from rfl)] at ho
    have hse := seen_ext hm.b hm.nd (g u).key
    cases hg2 : extI l (g u).key with
    | none =>
      rw [show (sI id u (g u)).sl.key = (g u).key from rfl, hse, hg2] at ho
      cases ho
    | some y =>
      rw [show (sI id u (g u)).sl.key = (g u).key from rfl, hse, hg2] at ho
      simp only [Bool.and_eq_true, decide_eq_true_eq] at ho
      have hy := List.mem_of_find?_eq_some hg2
      have hyk := List.find?_some hg2
      unfold isExt at hyk
      simp only [Bool.and_eq_true, beq_iff_eq, decide_eq_true_eq] at hyk
      have hyf := (ext_form (hm.right y hy) hyk.1).1
      have hE : aget E (g u).key = some y.pl := by
        refine (h.ext _ _).2 (hpl.2 ?_)
        rw [← hyk.2, ← hyf]
        exact hy
      have h5 : 0 ≤ (g u).off ∧ (g u).off ≤ 15 ∧ 1 ≤ (g u).mask ∧ (g u).mask ≤ 255 := hf.2.2.2
      exact ⟨h5.2.2.1, h5.2.2.2, h5.1, by omega, y.pl, hE, ho.1.1⟩
end
end Go.Proofs.YtgjjdfhoakailaaGreat
namespace Go.Proofs.YtgjjdfhoakailaaGreat
open Go.RowKit Go.Maps Go.Sort Go.Shelf
set_option linter.unusedVariables false
set_option linter.unusedSimpArgs false

def EndPost (w : World) (si xi bx mi bs n : Nat) (t : Int) (E : ExM) (f : MpF) (M : SnM) (e : Ending) (w' : World) : Prop :=
  e = .returned (.tuple #[]) ∧ Tch [mi, bs] w w' ∧ (t = 0 → StIs w' si xi bx mi bs n E f M) ∧ (t ≠ 0 → ∃ v, StIs w' si xi bx mi bs n E (clrF n f 0 ((n : Int) * 8)) (aput M t (v, f)))
set_option maxRecDepth 100000 in
set_option maxHeartbeats 2000000 in
theorem ofEnd_any {w : World} {si xi bx mi bs n ab sb ub : Nat} {t : Int} {E : ExM} {f : MpF} {M : SnM} (hs : StIs w si xi bx mi bs n E f M) (h1 : Blk w ab 3 #[.int .i64 t]) (h2 : Blk w sb 25 #[.pointer (some ⟨si, 0, none⟩)]) (h3 : Blk w ub 3 #[.int .i64 (n : Int)]) (ht : t ≠ 0 → snapE M t = 0) :
    Calls Tryz.prog 79 #[.pointer (some ⟨ab, 0, none⟩), .pointer (some ⟨sb, 0, none⟩), .pointer (some ⟨ub, 0, none⟩)] w (EndPost w si xi bx mi bs n t E f M) := by
  have S := Lib.hid hs
  have B1 := Lib.hid h1
  have B2 := Lib.hid h2
  have B3 := Lib.hid h3
  have hn512 := hs.maps.high
  have c1 := h1.cell (i := 0) (v := .int .i64 t) rfl
  clear hs h1 h2 h3
  by_cases h0 : t = 0
  · have HT := Lib.hid h0
    have b0 : (t == 0) = true := beq_iff_eq.2 h0
    clear h0 ht
    go_enter Tryz.func79, Tryz.ntmps79
    go_wp2_with fail
    go_end0
    exact ⟨rfl, Tch.refl _ _, fun _ => S.out, fun h => absurd HT.out h⟩
  · have HT := Lib.hid h0
    have b0 : (t == 0) = false := beq_eq_false_iff_ne.2 h0
    have HSn := Lib.hid (ht h0)
    clear h0 ht
    have c2 := B2.out.cell (i := 0) (v := .pointer (some ⟨si, 0, none⟩)) rfl
    have s2 := S.out.c2
    go_enter Tryz.func79, Tryz.ntmps79
    go_upto_region 1 with fail
    refine wp_region_qs (fun _ w' => w'.cell? ⟨sb, 0, none⟩ = some (.pointer (some ⟨si, 0, none⟩)) ∧ w'.cell? ⟨si, 2, none⟩ = some (.pointer (some ⟨mi, 0, none⟩)) ∧ w'.cell? ⟨ab, 0, none⟩ = some (.int .i64 t)) [(0, some 1), (1, some 1), (2, some 1), (3, some 0), (4, some 0), (5, none)] (by kernel_rfl) (by kernel_rfl) (by kernel_rfl) (by kernel_rfl) (by kernel_rfl) (fun _ _ _ _ _ h => h) ⟨c2, s2, c1⟩ ?_
    simp only [List.map_cons, List.map_nil, List.getD_cons_succ, List.getD_cons_zero]
    (repeat (first | (refine qs_now (v := ?_) (by rfl) ?_ ?_; rotate_left 1; (· (intro w' hS; go_simp; (try (simp only [↓IntWalk.iteOmega]; go_simp)); (try simp (disch := omega) only [IntWalk.i64_in]); try with_reducible rfl)); simp only [Act.put, List.setIfInBounds_toArray, List.set_cons_zero, List.set_cons_succ]) | (refine qs_run (v := ?_) (by rfl) ?_ ?_; rotate_left 1; (· (intro j w' hS; go_simp; (try (simp only [↓IntWalk.iteOmega]; go_simp)); (try simp (disch := omega) only [IntWalk.i64_in]); try with_reducible rfl)); simp only [Act.put, List.setIfInBounds_toArray, List.set_cons_zero, List.set_cons_succ]) | (refine qs_mid (v := ?_) (by rfl) ?_ ?_; rotate_left 1; (· (intro j w' hj1 hj2 hS; go_simp; (try (simp only [↓IntWalk.iteOmega]; go_simp)); (try simp (disch := omega) only [IntWalk.i64_in]); try with_reducible rfl)); simp only [Act.put, List.setIfInBounds_toArray, List.set_cons_zero, List.set_cons_succ]) | (refine qs_skip (by rfl) ?_; simp only [Act.put, List.setIfInBounds_toArray, List.set_cons_zero, List.set_cons_succ])))
    refine qs_act ?_
    go_wp2_with (go_at_call 80; refine (snap_any S.out.drew.maps t).mono ?_; rintro e w2 ⟨rfl, hT, hM⟩; have T2 := Lib.hid hT; have M2 := Lib.hid hM; clear hT hM)
    obtain ⟨g, hm, hg⟩ : ∃ g, MapsIs w2 mi bs n f (aput M t (g, f)) ∧ w.drew.heap.size ≤ g := by
      rcases M2.out with ⟨h, _⟩ | ⟨_, g, h1, h2⟩
      · exact absurd HSn.out h
      · exact ⟨g, h1, h2⟩
    have S2 := Lib.hid (S.out.drew.newMaps hm T2.out (fun k hk => by simp at hk; exact .inr hk))
    have nb : ∀ {k : Nat} {ty : TypeId} {cs : Array Value}, Blk w k ty cs → k ∉ [bs] := fun hb hk => by
      simp at hk
      exact blk_ne_map S.out.maps.map hb hk
    have B1' := Lib.hid (B1.out.drew.tch T2.out (nb B1.out))
    have B2' := Lib.hid (B2.out.drew.tch T2.out (nb B2.out))
    have B3' := Lib.hid (B3.out.drew.tch T2.out (nb B3.out))
    clear c1 c2 s2 nb hm hg
    have c1 := B1'.out.cell (i := 0) (v := .int .i64 t) rfl
    have c2 := B2'.out.cell (i := 0) (v := .pointer (some ⟨si, 0, none⟩)) rfl
    have s2 := S2.out.c2
    have c3 := B3'.out.cell (i := 0) (v := .int .i64 (n : Int)) rfl
    refine ⟨⟨c2, s2, c1⟩, ?_⟩
    refine qs_nil ?_
    go_upto_region 2 with fail
    refine wp_region_qs (fun _ w' => w'.cell? ⟨sb, 0, none⟩ = some (.pointer (some ⟨si, 0, none⟩)) ∧ w'.cell? ⟨si, 2, none⟩ = some (.pointer (some ⟨mi, 0, none⟩)) ∧ w'.cell? ⟨ub, 0, none⟩ = some (.int .i64 (n : Int))) [(0, some 1), (1, some 1), (2, some 1), (3, some 0), (4, some 1), (5, some 0), (6, none)] (by kernel_rfl) (by kernel_rfl) (by kernel_rfl) (by kernel_rfl) (by kernel_rfl) (fun _ _ _ _ _ h => h) ⟨c2, s2, c3⟩ ?_
    simp only [List.map_cons, List.map_nil, List.getD_cons_succ, List.getD_cons_zero]
    (repeat (first | (refine qs_now (v := ?_) (by rfl) ?_ ?_; rotate_left 1; (· (intro w' hS; go_simp; (try (simp only [↓IntWalk.iteOmega]; go_simp)); (try simp (disch := omega) only [IntWalk.i64_in]); try with_reducible rfl)); simp only [Act.put, List.setIfInBounds_toArray, List.set_cons_zero, List.set_cons_succ]) | (refine qs_run (v := ?_) (by rfl) ?_ ?_; rotate_left 1; (· (intro j w' hS; go_simp; (try (simp only [↓IntWalk.iteOmega]; go_simp)); (try simp (disch := omega) only [IntWalk.i64_in]); try with_reducible rfl)); simp only [Act.put, List.setIfInBounds_toArray, List.set_cons_zero, List.set_cons_succ]) | (refine qs_mid (v := ?_) (by rfl) ?_ ?_; rotate_left 1; (· (intro j w' hj1 hj2 hS; go_simp; (try (simp only [↓IntWalk.iteOmega]; go_simp)); (try simp (disch := omega) only [IntWalk.i64_in]); try with_reducible rfl)); simp only [Act.put, List.setIfInBounds_toArray, List.set_cons_zero, List.set_cons_succ]) | (refine qs_skip (by rfl) ?_; simp only [Act.put, List.setIfInBounds_toArray, List.set_cons_zero, List.set_cons_succ])))
    refine qs_act ?_
    go_wp2_with (go_at_call 81; refine (clear_any S2.out.drew.maps 0 ((n : Int) * 8)).mono ?_; rintro e w3 ⟨rfl, hM, hT⟩; have T3 := Lib.hid hT; have M3 := Lib.hid hM; clear hT hM)
    have S3 := Lib.hid (S2.out.drew.newMaps M3.out T3.out (fun k hk => by simp at hk; exact .inl hk))
    have nb : ∀ {k : Nat} {ty : TypeId} {cs : Array Value}, ty ≠ 123 → Blk w2 k ty cs → k ∉ [mi] := fun ht hb hk => by
      simp at hk
      exact blk_ne_ty hb S2.out.maps.blk ht hk
    refine ⟨⟨(B2'.out.drew.tch T3.out (nb (by decide) B2'.out)).cell (i := 0) (v := .pointer (some ⟨si, 0, none⟩)) rfl, S3.out.c2, (B3'.out.drew.tch T3.out (nb (by decide) B3'.out)).cell (i := 0) (v := .int .i64 (n : Int)) rfl⟩, ?_⟩
    refine qs_nil ?_
    go_wp2_with fail
    go_end0
    refine ⟨rfl, ?_, fun h => absurd h HT.out, fun _ => ⟨g, S3.out⟩⟩
    exact ((Tch.below (Below.refl _ w).drew).trans (T2.out.mono (fun k hk => by simp at hk ⊢; exact .inr hk))).trans ((Tch.below (Below.refl _ w2).drew).trans (T3.out.mono (fun k hk => by simp at hk ⊢; exact .inl hk)))
end Go.Proofs.YtgjjdfhoakailaaGreat
