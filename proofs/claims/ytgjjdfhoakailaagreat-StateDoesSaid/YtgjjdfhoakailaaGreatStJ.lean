/-
  peatbankkit: rows of Fresh and of Put: marks, Lent, Same, Kept, Over: walked.
  peatbankkit: rows of Put: Lent, Same, Kept, Over: walked.
  peatbankkit: LentOp, SameOp, KeptOp, OverOp: walked.
  StateDoes: what the state, ref26's state and the lent op leave of each other; Do of both.
  StateDoes: walked.
-/
import Derived.Test.YtgjjdfhoakailaaGreatStH
import Derived.Test.YtgjjdfhoakailaaGreatStQ1
import Derived.Test.YtgjjdfhoakailaaGreatStD
namespace Go.Proofs.YtgjjdfhoakailaaGreat
open Go.RowKit Go.Maps Go.Sort Go.Shelf
set_option linter.unusedVariables false
set_option linter.unusedSimpArgs false

theorem mark_any (k i : Int) (w : World) (hk : 0 ≤ k ∧ k ≤ 1000000000) (hi : 0 ≤ i ∧ i ≤ 1000000000000) :
    Calls Tryz.prog 109 #[.int .i64 k, .int .i64 i] w fun e w' => e = .returned (.int .i64 (1000003 * (k + 7) + i)) ∧ w = w' := by
  obtain ⟨h1, h2⟩ := hk
  obtain ⟨h3, h4⟩ := hi
  have h5 : 1000003 * (k + 7) ≤ 1000003 * 1000000007 := by omega
  have h6 : 0 ≤ 1000003 * (k + 7) := by omega
  go_enter Tryz.func109, Tryz.ntmps109
  go_wp2_with fail
  go_ret
  exact ⟨rfl, rfl⟩
instance : DecidableEq Fr := fun a b => decidable_of_iff ((a.key, a.pl) = (b.key, b.pl)) (by cases a; cases b; simp)
instance : DecidableEq Pu := fun a b => decidable_of_iff ((a.unit, a.sl) = (b.unit, b.sl)) (by cases a; cases b; simp)
def mkN (k i : Int) : Int := 1000003 * (k + 7) + i
theorem fr_litsOf (d : Nat) {f : Fr} (h : FrB f) : Tryz.prog.keyLits (d + 3) 130 (frC f) = some (litsK f.key ++ litsPl f.pl) := by
  have cp : Tryz.prog.cellsOf 52 = 4 := by kernel_rfl
  have ct : Tryz.prog.cellsOf 130 = 36 := by kernel_rfl
  have q0 : ((frC f).drop 0).take 32 = keyL f.key := by unfold frC; rw [List.drop_zero, List.take_left' (keyL_len _)]
  have q1 : ((frC f).drop 32).take 4 = plC f.pl := by unfold frC; rw [List.drop_left' (keyL_len _), List.take_of_length_le (by rw [plC_len]; omega)]
  have e0 := key_litsOf d f.key
  have e1 := pl_litsOf d h
  unfold Program.keyLits
  rw [Tryz.underlying130]
  simp only [ct, frC_len, cp, key_cellsOf, List.mapM_cons, List.mapM_nil, q0, q1, e0, e1, true_and]
  rw [if_pos (by kernel_rfl)]
  simp
theorem pu_litsOf (d : Nat) {p : Pu} (h : PuB p) : Tryz.prog.keyLits (d + 4) 132 (puC p) = some (.int .i64 p.unit :: litsSl p.sl) := by
  have c1 : Tryz.prog.cellsOf 3 = 1 := by kernel_rfl
  have cs : Tryz.prog.cellsOf 54 = 34 := by kernel_rfl
  have ct : Tryz.prog.cellsOf 132 = 35 := by kernel_rfl
  have q0 : ((puC p).drop 0).take 1 = [.int .i64 p.unit] := rfl
  have q1 : ((puC p).drop 1).take 34 = slC p.sl := by show (slC p.sl).take 34 = _; rw [List.take_of_length_le (by rw [slC_len]; omega)]
  have e0 := i64_litsOf (d + 2) p.unit h.1
  have e1 := sl_litsOf d h.2
  unfold Program.keyLits
  rw [Tryz.underlying132]
  simp only [ct, puC_len, c1, cs, List.mapM_cons, List.mapM_nil, q0, q1, e0, e1, true_and]
  rw [if_pos (by kernel_rfl)]
  simp
theorem litsFr_inj {s t : Fr} (h : litsK s.key ++ litsPl s.pl = litsK t.key ++ litsPl t.pl) : s = t := by
  have h1 := List.append_inj h (by simp [litsK_len])
  have h2 := litsK_inj h1.1
  have h3 := litsPl_inj h1.2
  cases s; cases t
  simp at h2 h3 ⊢
  exact ⟨h2, h3⟩
theorem litsPu_inj {s t : Pu} (h : (Lit.int .i64 s.unit :: litsSl s.sl) = Lit.int .i64 t.unit :: litsSl t.sl) : s = t := by
  simp only [List.cons.injEq, Lit.int.injEq, true_and] at h
  have h2 := litsSl_inj h.2
  cases s; cases t
  simp at h h2 ⊢
  exact ⟨h.1, h2⟩
def frM1 (k i : Int) : Fr := ⟨zKey, ⟨mkN k i, 0, 0, 0⟩⟩
def puM1 (k i : Int) : Pu := ⟨mkN k i, zSl⟩
theorem mkN_B {k i : Int} (hk : 0 ≤ k ∧ k ≤ 1000000000) (hi : 0 ≤ i ∧ i ≤ 1000000000000) : i64B (mkN k i) := by unfold i64B mkN; omega
theorem frM1_B {k i : Int} (hk : 0 ≤ k ∧ k ≤ 1000000000) (hi : 0 ≤ i ∧ i ≤ 1000000000000) : FrB (frM1 k i) := ⟨mkN_B hk hi, i64B_zero, i64B_zero, i64B_zero⟩
theorem puM1_B {k i : Int} (hk : 0 ≤ k ∧ k ≤ 1000000000) (hi : 0 ≤ i ∧ i ≤ 1000000000000) : PuB (puM1 k i) := ⟨mkN_B hk hi, zSl_B⟩
theorem built_plz (m : Int) : Tryz.prog.built 52 [(0, .int .i64 m)] = some (plC ⟨m, 0, 0, 0⟩).toArray := by kernel_rfl
theorem built_frz (m : Int) : Tryz.prog.built 130 [(1, .agg (plC ⟨m, 0, 0, 0⟩).toArray)] = some (frC ⟨zKey, ⟨m, 0, 0, 0⟩⟩).toArray := by kernel_rfl
theorem built_puz (m : Int) : Tryz.prog.built 132 [(0, .int .i64 m)] = some (puC ⟨m, zSl⟩).toArray := by kernel_rfl
set_option maxRecDepth 100000 in
set_option maxHeartbeats 1000000 in
theorem markFresh_any (k i : Int) (w : World) (hk : 0 ≤ k ∧ k ≤ 1000000000) (hi : 0 ≤ i ∧ i ≤ 1000000000000) :
    Calls Tryz.prog 89 #[.int .i64 k, .int .i64 i] w fun e w' => e = .returned (.agg (frC (frM1 k i)).toArray) ∧ Below w.heap.size w w' := by
  go_enter Tryz.func89, Tryz.ntmps89
  go_wp2_with (first
    | ((with_reducible show wpList _ _ _ (_ :: _) _ _); refine wpl_alloc rfl 130 (by rfl) Tryz.zeroValue130 36 (by rfl) ?_; intro w1 cs hk hc hg hz; have K1 := Lib.hid hk; have C1 := Lib.hid hc; have L1 := Lib.hid (bl_n (Below.refl _ w) hg); clear hk hc hg hz; simp only [Act.put, List.setIfInBounds_toArray, List.set_cons_zero, List.set_cons_succ])
    | (go_at_call 109; refine (mark_any k i _ hk hi).mono ?_; rintro ev w' ⟨rfl, rfl⟩)
    | ((with_reducible show wpList _ _ _ (_ :: _) _ _); refine wpl_mk rfl 52 #[(0, .tmp 7)] (by rfl) [(0, .int .i64 (1000003 * (k + 7) + i))] (by rfl) _ (built_plz _) ?_; simp only [Act.put, List.setIfInBounds_toArray, List.set_cons_zero, List.set_cons_succ])
    | ((with_reducible show wpList _ _ _ (_ :: _) _ _); refine wpl_mk rfl 130 #[(1, .tmp 8)] (by rfl) [(1, .agg (plC ⟨1000003 * (k + 7) + i, 0, 0, 0⟩).toArray)] (by rfl) _ (built_frz _) ?_; simp only [Act.put, List.setIfInBounds_toArray, List.set_cons_zero, List.set_cons_succ])
    | ((with_reducible show wpList _ _ _ (_ :: _) _ _); refine wpl_over rfl 130 (.tmp 4) (.tmp 9) (by rfl) w.heap.size (frC (frM1 k i)) (by rfl) (by rfl) _ cs K1.out (frC_info _) (by rw [frC_len, C1.out]) (frC_one _) ?_; intro w2 hk hg hz; have K2 := Lib.hid hk; have L2 := Lib.hid (bl_g L1.out hg (Nat.le_refl _)); clear hk hg hz; simp only [Act.put, List.setIfInBounds_toArray, List.set_cons_zero, List.set_cons_succ]))
  refine bodyPost_ret (results_blk rfl _ w.heap.size rfl _ _ K2.out _ Tryz.underlying130 rfl 36 (by kernel_rfl) (by simp [frC_len])) rfl ?_
  exact ⟨rfl, L2.out⟩
set_option maxRecDepth 100000 in
set_option maxHeartbeats 1000000 in
theorem markPut_any (k i : Int) (w : World) (hk : 0 ≤ k ∧ k ≤ 1000000000) (hi : 0 ≤ i ∧ i ≤ 1000000000000) :
    Calls Tryz.prog 90 #[.int .i64 k, .int .i64 i] w fun e w' => e = .returned (.agg (puC (puM1 k i)).toArray) ∧ Below w.heap.size w w' := by
  go_enter Tryz.func90, Tryz.ntmps90
  go_wp2_with (first
    | ((with_reducible show wpList _ _ _ (_ :: _) _ _); refine wpl_alloc rfl 132 (by rfl) Tryz.zeroValue132 35 (by rfl) ?_; intro w1 cs hk hc hg hz; have K1 := Lib.hid hk; have C1 := Lib.hid hc; have L1 := Lib.hid (bl_n (Below.refl _ w) hg); clear hk hc hg hz; simp only [Act.put, List.setIfInBounds_toArray, List.set_cons_zero, List.set_cons_succ])
    | (go_at_call 109; refine (mark_any k i _ hk hi).mono ?_; rintro ev w' ⟨rfl, rfl⟩)
    | ((with_reducible show wpList _ _ _ (_ :: _) _ _); refine wpl_mk rfl 132 #[(0, .tmp 7)] (by rfl) [(0, .int .i64 (1000003 * (k + 7) + i))] (by rfl) _ (built_puz _) ?_; simp only [Act.put, List.setIfInBounds_toArray, List.set_cons_zero, List.set_cons_succ])
    | ((with_reducible show wpList _ _ _ (_ :: _) _ _); refine wpl_over rfl 132 (.tmp 4) (.tmp 8) (by rfl) w.heap.size (puC (puM1 k i)) (by rfl) (by rfl) _ cs K1.out (puC_info _) (by rw [puC_len, C1.out]) (puC_one _) ?_; intro w2 hk hg hz; have K2 := Lib.hid hk; have L2 := Lib.hid (bl_g L1.out hg (Nat.le_refl _)); clear hk hg hz; simp only [Act.put, List.setIfInBounds_toArray, List.set_cons_zero, List.set_cons_succ]))
  refine bodyPost_ret (results_blk rfl _ w.heap.size rfl _ _ K2.out _ Tryz.underlying132 rfl 35 (by kernel_rfl) (by simp [puC_len])) rfl ?_
  exact ⟨rfl, L2.out⟩
/-! api.Fresh -/
theorem fr_eqIn {i j : Fr} (hi : FrB i) (hj : FrB j) (w : World) : (Op.equalIn 10000 130 (.agg (frC i).toArray) (.agg (frC j).toArray)).run Tryz.prog w = .ok (decide (i = j)) w := by
  have hE := run_equalIn_deep (P := Tryz.prog) 9996 4 130 (by kernel_rfl)
  have ct : Tryz.prog.cellsOf 130 = 36 := by kernel_rfl
  have hf : ∀ i : Fr, (Value.agg (frC i).toArray).formed Tryz.prog 130 = true := fun i => by simp [Value.formed, Tryz.underlying130, ct, frC_len]
  have hc : ∀ i : Fr, (Value.agg (frC i).toArray).cells.toList = frC i := fun i => by simp [Value.cells]
  obtain ⟨r, hr, hrr⟩ := hE w 4 4 _ _ _ _ (hf i) (hf j) (by rw [hc]; exact fr_litsOf 1 hi) (by rw [hc]; exact fr_litsOf 1 hj)
  have e : r = decide (i = j) := by
    by_cases h : i = j
    · rw [decide_eq_true h]
      exact hrr.2 (by rw [h])
    · rw [decide_eq_false h]
      rcases hb : r with _ | _
      · rfl
      · exact absurd (litsFr_inj (hrr.1 hb)) h
  subst e
  exact hr
theorem fr_neq {i j : Fr} (hi : FrB i) (hj : FrB j) (w : World) : (binOp BinOp.neq 130 (.agg (frC i).toArray) (.agg (frC j).toArray)).run Tryz.prog w = .ok (.bool (!decide (i = j))) w := by
  rw [run_neq_struct, fr_eqIn hi hj w]
  rfl
theorem fr_eql {i j : Fr} (hi : FrB i) (hj : FrB j) (w : World) : (binOp BinOp.eql 130 (.agg (frC i).toArray) (.agg (frC j).toArray)).run Tryz.prog w = .ok (.bool (decide (i = j))) w := by
  rw [run_eql_struct, fr_eqIn hi hj w]
  rfl
theorem fr_i : (Tryz.prog.info? 130).map (·.size) = some 36 := by kernel_rfl
theorem fr_has : ∃ (zc : Value) (bytes : Nat), (Tryz.prog.info? 130).map (fun i => (i.zero, i.size, i.bytes)) = some (some zc, 36, bytes) ∧ zc.cells.size = 36 ∧ bytes ≤ 100 := ⟨.agg (frC ⟨zKey, zPl⟩).toArray, 64, by kernel_rfl, by simp [Value.cells, frC_len], by omega⟩
def frMs (k : Int) (m : Nat) : List Fr := (List.range m).map (fun i : Nat => frM1 k (i : Int))
theorem frMs_succ (k : Int) (m : Nat) : frMs k (m + 1) = frMs k m ++ [frM1 k (m : Int)] := by simp [frMs, List.range_succ]
theorem frMs_len (k : Int) (m : Nat) : (frMs k m).length = m := by simp [frMs]
def frLent (l : List Fr) (n : Nat) (w : World) (e : Ending) (w' : World) : Prop :=
  ∃ g c, e = .returned (.slice (some ⟨g, 0, none⟩) n c) ∧ n + 12 ≤ c ∧ w'.ownsRow w.heap.size 130 36 (.slice (some ⟨g, 0, none⟩) (n + 12) c) (n + 12) ((l ++ frMs 1 12).flatMap frC) ∧ Below w.heap.size w w'
set_option maxRecDepth 100000 in
set_option maxHeartbeats 2000000 in
theorem frLent_any {w : World} {A : Option Addr} {n c : Nat} {l : List Fr} (h : Src w 36 (.slice A n c) n (l.flatMap frC)) (hl : l.length = n) (hn : n ≤ 1000000) :
    Calls Tryz.prog 38 #[.slice A n c] w (frLent l n w) := by
  have H := Lib.hid h
  have HL := Lib.hid hl
  clear h hl
  obtain ⟨zc, bytes, hi, hzs, hby⟩ := fr_has
  obtain ⟨i0, hi0, hz0, hz1, hz2⟩ := info_parts hi
  have HI := Lib.hid hi0
  have HI2 := Lib.hid hi
  have HZ0 := Lib.hid hz0
  have HZ1 := Lib.hid hz1
  have HZ2 := Lib.hid hz2
  have HZs := Lib.hid hzs
  have HBy := Lib.hid hby
  have hmulb : (n + 12) * bytes ≤ 140737488355328 := by
    have := Nat.mul_le_mul (show n + 12 ≤ 1000012 by omega) hby
    omega
  have HMb := Lib.hid (show ∀ q, q ≤ n + 12 → q * bytes ≤ 140737488355328 from fun q hq => Nat.le_trans (Nat.mul_le_mul_right _ hq) hmulb)
  clear hi0 hi hz0 hz1 hz2 hzs hby hmulb
  go_enter Tryz.func38, Tryz.ntmps38
  go_upto_region 4 with (first
    | (at_make; refine wpList_make_own w rfl (.const (.int .i64 0)) (.tmp 7) 32 (by rfl) w.heap.size 130 i0 _ 36 Tryz.underlying32 HI.out HZ0.out HZ1.out .i64 .i64 _ (n + 12) (by rfl) (by rfl) (by omega) (by rw [HZ2.out, Nat.mul_comm]; exact Nat.le_trans (HMb.out _ (Nat.le_refl _)) (by omega)) (by unfold maxLen; omega) (Nat.le_refl _) ?_; intro w1 ho1 hg1; have O1 := Lib.hid ho1; have L1 := Lib.hid (bl_n (Below.refl _ _) hg1); clear ho1 hg1; simp only [Act.put, List.setIfInBounds_toArray, List.set_cons_zero, List.set_cons_succ])
    | (refine app_src rfl (.tmp 9) (.tmp 10) 32 (by rfl) w.heap.size 130 zc 36 bytes Tryz.underlying32 HI2.out HZs.out (by omega) _ 0 _ (by rfl) O1.out _ n _ (by rfl) (H.out.below L1.out) (fun v hv => by obtain ⟨q, _, hq⟩ := List.mem_flatMap.1 hv; exact frC_one q v hq) (by omega) (HMb.out _ (by omega)) L1.out.size ?_; intro v2 w2 ho2 hg2 hor2; have O2 := Lib.hid ho2; have L2 := Lib.hid (L1.out.grown hg2 L1.out.size (fun k hk => (O1.out.lt k hk).1)); clear ho2 hg2 hor2; simp only [Act.put, List.setIfInBounds_toArray, List.set_cons_zero, List.set_cons_succ]))
  go_loopg [3, 4] 12 (fun k v iv wr => ∃ i : Nat, iv = .int .i64 (i : Int) ∧ i ≤ 12 ∧ i + k ≤ 12 ∧ 12 ≤ i + k ∧ wr.ownsRow w.heap.size 130 36 v (n + i) ((l ++ frMs 1 i).flatMap frC) ∧ Below w.heap.size w wr)
  case atStart => exact ⟨0, rfl, by omega, by omega, by omega, by have h := O2.out; simpa [frMs] using h, L2.out⟩
  case round =>
    obtain ⟨i, rfl, i1, i2, i3, ho, hb⟩ := hrel
    have O := Lib.hid ho
    have LB := Lib.hid hb
    clear ho hb O1 O2 L1 L2
    by_cases hi : i < 12
    · have hiI : (i : Int) < 12 := by omega
      have HE := Lib.hid (show (l ++ frMs 1 (i + 1)).flatMap frC = (l ++ frMs 1 i).flatMap frC ++ frC (frM1 1 (i : Int)) by rw [frMs_succ, ← List.append_assoc, List.flatMap_append, List.flatMap_cons, List.flatMap_nil, List.append_nil])
      have hbi : 0 ≤ (i : Int) ∧ (i : Int) ≤ 1000000000000 := by omega
      have HBi := Lib.hid hbi
      clear hbi
      go_wp2_with (first
        | (go_at_call 89; refine (markFresh_any 1 i _ (by omega) HBi.out).mono ?_; rintro e w3 ⟨rfl, hb⟩; have L3 := Lib.hid (below_chain LB.out hb); have O3 := Lib.hid (own_belowR O.out hb); clear hb)
        | ((with_reducible show wpList _ _ _ (_ :: _) _ _); refine wpl_lit1 rfl 32 130 (.tmp 18) (by rfl) (frC (frM1 1 (i : Int))) (by rfl) Tryz.underlying32 (by rw [frC_len]; exact HI2.out) (by rw [frC_len]; exact HZs.out) (by rw [frC_len]; omega) (by rw [frC_len]; omega) ?_; intro w4 hk hg hz; have K4 := Lib.hid hk; have L4 := Lib.hid (bl_n L3.out hg); have O4 := Lib.hid (own_belowR O3.out (bl_n (Below.refl _ w3) hg)); clear hk hg hz; simp only [Act.put, List.setIfInBounds_toArray, List.set_cons_zero, List.set_cons_succ])
        | (refine app_src rfl (.tmp 16) (.tmp 19) 32 (by rfl) w.heap.size 130 zc 36 bytes Tryz.underlying32 HI2.out HZs.out (by omega) _ (n + i) _ (by rfl) O4.out (.slice (some ⟨_, 0, none⟩) 1 1) 1 (frC (frM1 1 (i : Int))) (by rfl) ⟨_, 1, rfl, by rw [frC_len], fun _ => ⟨_, 0, rfl, K4.out.lt, fun j y hy => by rw [Nat.zero_add]; exact K4.out.cell (by rw [List.getElem?_toArray]; exact hy)⟩⟩ (frC_one _) (by omega) (HMb.out _ (by omega)) L4.out.size ?_; intro v5 w5 ho2 hg2 hor2; have O5 := Lib.hid ho2; have L5 := Lib.hid (L4.out.grown hg2 L4.out.size (fun k hk => (O4.out.lt k hk).1)); clear ho2 hg2 hor2; simp only [Act.put, List.setIfInBounds_toArray, List.set_cons_zero, List.set_cons_succ]))
      go_roundg (gk - 1)
      case measure => omega
      case rel => exact ⟨i + 1, by congr 1, by omega, by omega, by omega, by rw [HE.out]; exact O5.out, L5.out⟩
    · obtain rfl : i = 12 := by omega
      obtain ⟨g, c1, hv, h1, h2⟩ := O.out.form (by omega)
      obtain ⟨A2, c2, hv2, hc2⟩ := own_slice O.out
      have HC := Lib.hid (show n + 12 ≤ c1 by rw [hv] at hv2; injection hv2 with _ _ e; rw [e]; exact hc2)
      have hc1 : (n : Int) ≤ c1 := by have := HC.out; omega
      subst hv
      clear hv2 hc2 h1 h2
      go_wp2_with fail
      go_ret
      exact ⟨g, c1, rfl, HC.out, O.out, LB.out⟩
set_option maxRecDepth 100000 in
set_option maxHeartbeats 2000000 in
theorem frSame_any {w : World} {A B : Option Addr} {n c d : Nat} {l : List Fr} (h : Src w 36 (.slice A n c) n (l.flatMap frC)) (h' : Src w 36 (.slice B n d) n (l.flatMap frC)) (hl : l.length = n) (hb : ∀ i ∈ l, FrB i) (hn : n ≤ 1000000) :
    Calls Tryz.prog 99 #[.slice A n c, .slice B n d] w fun e w' => e = .returned (.bool true) ∧ Below w.heap.size w w' := by
  have H := Lib.hid h
  have HL := Lib.hid hl
  have H' := Lib.hid h'
  have HB := Lib.hid hb
  clear h hl h' hb
  have d0 : ((n : Int) != n) = false := by simp
  go_enter Tryz.func99, Tryz.ntmps99
  go_upto_region 4 with fail
  go_loopg [5] n (fun k iv wr => ∃ i : Nat, iv = .int .i64 (i : Int) ∧ i ≤ n ∧ i + k ≤ n ∧ n ≤ i + k ∧ Below w.heap.size w wr)
  case atStart => exact ⟨0, rfl, by omega, by omega, by omega, Below.refl _ _⟩
  case round =>
    obtain ⟨i, rfl, i1, i2, i3, hb⟩ := hrel
    have LB := Lib.hid hb
    clear hb
    by_cases hi : i < n
    · have hiI : (i : Int) < (n : Int) := by omega
      have hil : i < l.length := by rw [HL.out]; exact hi
      obtain ⟨b, off, hA, hx⟩ := src_part frC_len (H.out.below LB.out) HL.out hil
      obtain ⟨b', off', hA', hy⟩ := src_part frC_len (H'.out.below LB.out) HL.out hil
      have fq := fun w => fr_neq (HB.out _ (List.getElem_mem hil)) (HB.out _ (List.getElem_mem hil)) w
      generalize l[i] = x at hx hy fq
      subst hA hA'
      have d1 : decide (x = x) = true := decide_eq_true rfl
      simp only [d1, Bool.not_true] at fq
      go_upto_region 6 with fail
      refine wp_region_qs (fun _ w' => w'.rangeAt b (off + i * 36) (frC x) ∧ w'.rangeAt b' (off' + i * 36) (frC x)) [(0, some 0), (1, some 0), (2, some 0), (3, some 0), (4, some 0), (5, some 0), (6, some 0), (7, some 0), (8, some 0)] (by kernel_rfl) (by kernel_rfl) (by kernel_rfl) (by kernel_rfl) (by kernel_rfl) (fun _ _ _ _ _ h => h) ⟨hx, hy⟩ ?_
      simp only [List.map_cons, List.map_nil, List.getD_cons_succ, List.getD_cons_zero]
      (repeat (first | ((first | (refine qs_row (by rfl) 130 (.tmp 19) rfl b (off + i * 36) rfl (frC x) _ (fun j w' _ h2 h => h.1) Tryz.underlying130 rfl (frC_info x) ?_) | (refine qs_row (by rfl) 130 (.tmp 23) rfl b' (off' + i * 36) rfl (frC x) _ (fun j w' _ h2 h => h.2) Tryz.underlying130 rfl (frC_info x) ?_)); simp only [Act.put, List.setIfInBounds_toArray, List.set_cons_zero, List.set_cons_succ]) | (refine qs_now (v := ?_) (by rfl) ?_ ?_; rotate_left 1; (· (intro w' hS; go_simp; (try (simp only [↓IntWalk.iteOmega]; go_simp)); (try simp (disch := omega) only [IntWalk.i64_in]); try with_reducible rfl)); simp only [Act.put, List.setIfInBounds_toArray, List.set_cons_zero, List.set_cons_succ]) | (refine qs_run (v := ?_) (by rfl) ?_ ?_; rotate_left 1; (· (intro j w' hS; go_simp; (try (simp only [↓IntWalk.iteOmega]; go_simp)); (try simp (disch := omega) only [IntWalk.i64_in]); try with_reducible rfl)); simp only [Act.put, List.setIfInBounds_toArray, List.set_cons_zero, List.set_cons_succ]) | (refine qs_mid (v := ?_) (by rfl) ?_ ?_; rotate_left 1; (· (intro j w' hj1 hj2 hS; go_simp; (try (simp only [↓IntWalk.iteOmega]; go_simp)); (try simp (disch := omega) only [IntWalk.i64_in]); try with_reducible rfl)); simp only [Act.put, List.setIfInBounds_toArray, List.set_cons_zero, List.set_cons_succ]) | (refine qs_skip (by rfl) ?_; simp only [Act.put, List.setIfInBounds_toArray, List.set_cons_zero, List.set_cons_succ])))
      refine qs_nil ?_
      go_wp2_with fail
      go_roundg (gk - 1)
      case measure => omega
      case rel => exact ⟨i + 1, by congr 1, by omega, by omega, by omega, LB.out.drew⟩
    · have hiI : ¬ (i : Int) < (n : Int) := by omega
      go_wp2_with fail
      go_ret
      exact ⟨rfl, LB.out⟩
set_option maxRecDepth 100000 in
set_option maxHeartbeats 4000000 in
/-- What was lent, and has not turned, is kept. -/
theorem frKept_any {w : World} {A : Option Addr} {base g n c cap : Nat} {l : List Fr} (h : Src w 36 (.slice A n cap) n (l.flatMap frC)) (hl : l.length = n) (ho : w.ownsRow base 130 36 (.slice (some ⟨g, 0, none⟩) (n + 12) c) (n + 12) ((l ++ frMs 1 12).flatMap frC)) (hc : n + 12 ≤ c) (hb : ∀ i ∈ l, FrB i) (hn : n ≤ 1000000) :
    Calls Tryz.prog 59 #[.slice (some ⟨g, 0, none⟩) n c, .slice A n cap] w fun e w' => e = .returned (.bool true) ∧ Below w.heap.size w w' := by
  have H := Lib.hid h
  have HL := Lib.hid hl
  have HO := Lib.hid ho
  have HB := Lib.hid hb
  clear h hl ho hb
  have d0 : ((n : Int) != n) = false := by simp
  have hcI : (n : Int) + 12 ≤ c := by omega
  go_enter Tryz.func59, Tryz.ntmps59
  go_upto_region 5 with fail
  go_loopg [6] (n + 12) (fun k iv wr => ∃ i : Nat, iv = .int .i64 (i : Int) ∧ i ≤ n + 12 ∧ i + k ≤ n + 12 ∧ n + 12 ≤ i + k ∧ Below w.heap.size w wr)
  case atStart => exact ⟨0, rfl, by omega, by omega, by omega, Below.refl _ _⟩
  case round =>
    obtain ⟨i, rfl, i1, i2, i3, hb⟩ := hrel
    have LB := Lib.hid hb
    clear hb
    by_cases hlt : i < n + 12
    · have hltI : (i : Int) < (n : Int) + 12 := by omega
      have hlen : (l ++ frMs 1 12).length = n + 12 := by rw [List.length_append, HL.out, frMs_len]
      have hil : i < (l ++ frMs 1 12).length := by rw [hlen]; exact hlt
      obtain ⟨b0, off0, hA0, hx0⟩ := src_part frC_len (Src.of_own (own_belowR HO.out LB.out)) hlen hil
      injection hA0 with hA0
      injection hA0 with e1 e2
      subst e1 e2
      rw [Nat.zero_add] at hx0
      by_cases hin : i < n
      · have d1 : decide ((i : Int) < n) = true := by simp; omega
        have d2 : decide ((n : Int) ≤ i) = false := by simp; omega
        have d1' : decide (i < n) = true := by simpa using hin
        have d2' : decide (n ≤ i) = false := by simp; omega
        have hiI : (i : Int) < n := by omega
        have hil2 : i < l.length := by rw [HL.out]; exact hin
        obtain ⟨b, off, hA, hy⟩ := src_part frC_len (H.out.below LB.out) HL.out hil2
        have fq := fun w => fr_eql (HB.out _ (List.getElem_mem hil2)) (HB.out _ (List.getElem_mem hil2)) w
        rw [List.getElem_append_left hil2] at hx0
        generalize l[i] = x at hx0 hy fq
        subst hA
        have q1 : decide (x = x) = true := decide_eq_true rfl
        simp only [q1] at fq
        have HX0 := Lib.hid hx0
        have HY0 := Lib.hid hy
        clear hlen hil hil2 hx0 hy
        go_upto_region 7 with fail
        refine wp_region_qs (fun _ w' => w'.rangeAt g (i * 36) (frC x) ∧ w'.rangeAt b (off + i * 36) (frC x)) [(0, some 1), (1, some 1), (2, some 1), (3, some 1), (4, some 1), (5, some 1), (6, some 1), (7, some 1), (8, some 1), (9, some 1), (10, some 1), (11, some 1), (12, some 1), (13, some 1), (14, some 1), (15, some 1), (16, some 1), (17, some 1), (18, some 1), (19, some 1), (20, some 1), (21, some 0), (22, some 1), (23, some 1), (24, some 1), (25, some 1), (26, some 1), (27, some 1), (28, some 1), (29, some 0), (30, none), (31, some 1), (32, some 1), (33, some 1), (34, some 1)] (by kernel_rfl) (by kernel_rfl) (by kernel_rfl) (by kernel_rfl) (by kernel_rfl) (fun _ _ _ _ _ h => h) ⟨HX0.out, HY0.out⟩ ?_
        simp only [List.map_cons, List.map_nil, List.getD_cons_succ, List.getD_cons_zero]
        (repeat (first | ((first | (refine qs_row (by rfl) 130 (.tmp 30) rfl g (i * 36) rfl (frC x) _ (fun j w' _ h2 h => h.1) Tryz.underlying130 rfl (frC_info x) ?_) | (refine qs_row (by rfl) 130 (.tmp 34) rfl b (off + i * 36) rfl (frC x) _ (fun j w' _ h2 h => h.2) Tryz.underlying130 rfl (frC_info x) ?_)); simp only [Act.put, List.setIfInBounds_toArray, List.set_cons_zero, List.set_cons_succ]) | (refine qs_now (v := ?_) (by rfl) ?_ ?_; rotate_left 1; (· (intro w' hS; go_simp; (try (simp only [↓IntWalk.iteOmega]; go_simp)); (try simp (disch := omega) only [IntWalk.i64_in]); try with_reducible rfl)); simp only [Act.put, List.setIfInBounds_toArray, List.set_cons_zero, List.set_cons_succ]) | (refine qs_run (v := ?_) (by rfl) ?_ ?_; rotate_left 1; (· (intro j w' hS; go_simp; (try (simp only [↓IntWalk.iteOmega]; go_simp)); (try simp (disch := omega) only [IntWalk.i64_in]); try with_reducible rfl)); simp only [Act.put, List.setIfInBounds_toArray, List.set_cons_zero, List.set_cons_succ]) | (refine qs_mid (v := ?_) (by rfl) ?_ ?_; rotate_left 1; (· (intro j w' hj1 hj2 hS; go_simp; (try (simp only [↓IntWalk.iteOmega]; go_simp)); (try simp (disch := omega) only [IntWalk.i64_in]); try with_reducible rfl)); simp only [Act.put, List.setIfInBounds_toArray, List.set_cons_zero, List.set_cons_succ]) | (refine qs_skip (by rfl) ?_; simp only [Act.put, List.setIfInBounds_toArray, List.set_cons_zero, List.set_cons_succ])))
        refine qs_act ?_
        go_wp2_with fail
        refine ⟨⟨HX0.out, HY0.out⟩, ?_⟩
        (repeat (first | (refine qs_now (v := ?_) (by rfl) ?_ ?_; rotate_left 1; (· (intro w' hS; go_simp; (try (simp only [↓IntWalk.iteOmega]; go_simp)); (try simp (disch := omega) only [IntWalk.i64_in]); try with_reducible rfl)); simp only [Act.put, List.setIfInBounds_toArray, List.set_cons_zero, List.set_cons_succ]) | (refine qs_run (v := ?_) (by rfl) ?_ ?_; rotate_left 1; (· (intro j w' hS; go_simp; (try (simp only [↓IntWalk.iteOmega]; go_simp)); (try simp (disch := omega) only [IntWalk.i64_in]); try with_reducible rfl)); simp only [Act.put, List.setIfInBounds_toArray, List.set_cons_zero, List.set_cons_succ]) | (refine qs_mid (v := ?_) (by rfl) ?_ ?_; rotate_left 1; (· (intro j w' hj1 hj2 hS; go_simp; (try (simp only [↓IntWalk.iteOmega]; go_simp)); (try simp (disch := omega) only [IntWalk.i64_in]); try with_reducible rfl)); simp only [Act.put, List.setIfInBounds_toArray, List.set_cons_zero, List.set_cons_succ]) | (refine qs_skip (by rfl) ?_; simp only [Act.put, List.setIfInBounds_toArray, List.set_cons_zero, List.set_cons_succ])))
        refine qs_nil ?_
        go_wp2_with fail
        go_roundg (gk - 1)
        case measure => omega
        case rel => exact ⟨i + 1, by congr 1, by omega, by omega, by omega, LB.out.drew⟩
      · have d1 : decide ((i : Int) < n) = false := by simp; omega
        have d2 : decide ((n : Int) ≤ i) = true := by simp; omega
        have d1' : decide (i < n) = false := by simpa using hin
        have d2' : decide (n ≤ i) = true := by simp; omega
        obtain ⟨j, hj⟩ : ∃ j, j = i - n := ⟨_, rfl⟩
        have hsub : (i : Int) - n = (j : Int) := by omega
        have HSub := Lib.hid hsub
        have hj12 : j < 12 := by omega
        have hwr : IntKind.i64.wrap ((i : Int) - n) = (j : Int) := by rw [HSub.out]; exact IntWalk.i64_in _ (by omega)
        have hx1 : (l ++ frMs 1 12)[i] = frM1 1 (j : Int) := by
          rw [List.getElem_append_right (by rw [HL.out]; omega)]
          simp only [frMs, List.getElem_map, List.getElem_range, HL.out, hj]
        rw [hx1] at hx0
        clear hsub hj hx1 hlen hil
        have HBj := Lib.hid (show 0 ≤ (j : Int) ∧ (j : Int) ≤ 1000000000000 by omega)
        have fq := fun w => fr_eql (frM1_B (k := 1) (by omega) HBj.out) (frM1_B (k := 1) (by omega) HBj.out) w
        obtain ⟨y, hy⟩ : ∃ y, y = frM1 1 (j : Int) := ⟨_, rfl⟩
        have HY := Lib.hid hy
        rw [← hy] at hx0 fq
        clear hy
        have q1 : decide (y = y) = true := decide_eq_true rfl
        simp only [q1] at fq
        have HX0 := Lib.hid hx0
        clear hx0
        go_upto_region 7 with fail
        refine wp_region_qs (fun _ w' => w'.rangeAt g (i * 36) (frC y)) [(0, some 1), (1, some 1), (2, some 1), (3, some 1), (4, some 1), (5, some 1), (6, some 1), (7, some 1), (8, some 1), (9, some 1), (10, some 1), (11, some 1), (12, some 1), (13, some 1), (14, some 1), (15, some 1), (16, some 1), (17, some 1), (18, some 1), (19, some 1), (20, some 1), (21, some 0), (22, some 1), (23, some 1), (24, some 1), (25, some 1), (26, some 1), (27, some 1), (28, some 1), (29, some 0), (30, none), (31, some 1), (32, some 1), (33, some 1), (34, some 1)] (by kernel_rfl) (by kernel_rfl) (by kernel_rfl) (by kernel_rfl) (by kernel_rfl) (fun _ _ _ _ _ h => h) HX0.out ?_
        simp only [List.map_cons, List.map_nil, List.getD_cons_succ, List.getD_cons_zero]
        (repeat (first | ((refine qs_row (by rfl) 130 (.tmp 47) rfl g (i * 36) rfl (frC y) _ (fun j w' _ h2 h => h) Tryz.underlying130 rfl (frC_info y) ?_); simp only [Act.put, List.setIfInBounds_toArray, List.set_cons_zero, List.set_cons_succ]) | (refine qs_now (v := ?_) (by rfl) ?_ ?_; rotate_left 1; (· (intro w' hS; go_simp; (try (simp only [↓IntWalk.iteOmega]; go_simp)); (try simp (disch := omega) only [IntWalk.i64_in]); try with_reducible rfl)); simp only [Act.put, List.setIfInBounds_toArray, List.set_cons_zero, List.set_cons_succ]) | (refine qs_run (v := ?_) (by rfl) ?_ ?_; rotate_left 1; (· (intro j w' hS; go_simp; (try (simp only [↓IntWalk.iteOmega]; go_simp)); (try simp (disch := omega) only [IntWalk.i64_in]); try with_reducible rfl)); simp only [Act.put, List.setIfInBounds_toArray, List.set_cons_zero, List.set_cons_succ]) | (refine qs_mid (v := ?_) (by rfl) ?_ ?_; rotate_left 1; (· (intro j w' hj1 hj2 hS; go_simp; (try (simp only [↓IntWalk.iteOmega]; go_simp)); (try simp (disch := omega) only [IntWalk.i64_in]); try with_reducible rfl)); simp only [Act.put, List.setIfInBounds_toArray, List.set_cons_zero, List.set_cons_succ]) | (refine qs_skip (by rfl) ?_; simp only [Act.put, List.setIfInBounds_toArray, List.set_cons_zero, List.set_cons_succ])))
        refine qs_act ?_
        go_wp2_with (go_at_call 89; refine (markFresh_any 1 j _ (by omega) HBj.out).mono ?_; rintro ev w4 ⟨rfl, hb⟩; rewrite [← HY.out]; have L4 := Lib.hid hb; clear hb)
        refine ⟨blk_rng (w := wr.drew) HX0.out L4.out (by rw [frC_len]; omega), ?_⟩
        (repeat (first | (refine qs_now (v := ?_) (by rfl) ?_ ?_; rotate_left 1; (· (intro w' hS; go_simp; (try (simp only [↓IntWalk.iteOmega]; go_simp)); (try simp (disch := omega) only [IntWalk.i64_in]); try with_reducible rfl)); simp only [Act.put, List.setIfInBounds_toArray, List.set_cons_zero, List.set_cons_succ]) | (refine qs_run (v := ?_) (by rfl) ?_ ?_; rotate_left 1; (· (intro j w' hS; go_simp; (try (simp only [↓IntWalk.iteOmega]; go_simp)); (try simp (disch := omega) only [IntWalk.i64_in]); try with_reducible rfl)); simp only [Act.put, List.setIfInBounds_toArray, List.set_cons_zero, List.set_cons_succ]) | (refine qs_mid (v := ?_) (by rfl) ?_ ?_; rotate_left 1; (· (intro j w' hj1 hj2 hS; go_simp; (try (simp only [↓IntWalk.iteOmega]; go_simp)); (try simp (disch := omega) only [IntWalk.i64_in]); try with_reducible rfl)); simp only [Act.put, List.setIfInBounds_toArray, List.set_cons_zero, List.set_cons_succ]) | (refine qs_skip (by rfl) ?_; simp only [Act.put, List.setIfInBounds_toArray, List.set_cons_zero, List.set_cons_succ])))
        refine qs_nil ?_
        clear hwr
        go_wp2_with fail
        go_roundg (gk - 1)
        case measure => omega
        case rel => exact ⟨i + 1, by congr 1, by omega, by omega, by omega, below_chain LB.out.drew L4.out⟩
    · obtain rfl : i = n + 12 := by omega
      go_wp2_with fail
      go_ret
      exact ⟨rfl, LB.out⟩
set_option maxRecDepth 100000 in
set_option maxHeartbeats 2000000 in
theorem frOver_any {w : World} {base g n c : Nat} {l : List Fr} (ho : w.ownsRow base 130 36 (.slice (some ⟨g, 0, none⟩) (n + 12) c) (n + 12) (l.flatMap frC)) (hl : l.length = n + 12) (hc : n + 12 ≤ c) (hn : n ≤ 1000000) :
    Calls Tryz.prog 61 #[.slice (some ⟨g, 0, none⟩) n c] w fun e w' => e = .returned (.tuple #[]) ∧ Tch [g] w w' := by
  have HO := Lib.hid ho
  have HL := Lib.hid hl
  clear ho hl
  have hcI : (n : Int) + 12 ≤ c := by omega
  go_enter Tryz.func61, Tryz.ntmps61
  go_upto_region 2 with fail
  go_loopg [3] (n + 12) (fun k iv wr => ∃ (i : Nat) (q : List Fr), iv = .int .i64 (i : Int) ∧ i ≤ n + 12 ∧ i + k ≤ n + 12 ∧ n + 12 ≤ i + k ∧ q.length = n + 12 ∧ wr.ownsRow base 130 36 (.slice (some ⟨g, 0, none⟩) (n + 12) c) (n + 12) (q.flatMap frC) ∧ Tch [g] w wr)
  case atStart => exact ⟨0, l, rfl, by omega, by omega, by omega, HL.out, HO.out, Tch.refl _ _⟩
  case round =>
    obtain ⟨i, q, rfl, i1, i2, i3, hq, ho, hb⟩ := hrel
    have HQ := Lib.hid hq
    have O := Lib.hid ho
    have LT_ := Lib.hid hb
    clear hq ho hb
    by_cases hlt : i < n + 12
    · have hltI : (i : Int) < (n : Int) + 12 := by omega
      have HBi := Lib.hid (show 0 ≤ (i : Int) ∧ (i : Int) ≤ 1000000000000 by omega)
      go_wp2_with (first
        | (go_at_call 89; refine (markFresh_any 2 i _ (by omega) HBi.out).mono ?_; rintro ev w4 ⟨rfl, hb⟩; have T4 := Lib.hid (LT_.out.trans (Tch.below hb)); have O4 := Lib.hid (own_belowR O.out hb); clear hb)
        | ((with_reducible show wpList _ _ _ (_ :: _) _ _); refine wpl_sidx rfl 32 (.tmp 15) (.tmp 16) (by rfl) Tryz.underlying32 Tryz.sizeOf130 g 0 (n + 12) c i (by rfl) (by rfl) hlt ?_; simp only [Act.put, List.setIfInBounds_toArray, List.set_cons_zero, List.set_cons_succ])
        | ((with_reducible show wpList _ _ _ (_ :: _) _ _); refine wpl_store_own frC_len frC_one rfl 130 (.tmp 19) (.tmp 18) (by rfl) base g i (n + 12) c _ 130 q (frM1 2 (i : Int)) (by rfl) (by omega) (by rfl) O4.out HQ.out hlt fr_i ?_; intro w6 ho hg; have O6 := Lib.hid ho; have T6 := Lib.hid (T4.out.trans (Tch.grown hg (fun k hk => by injection hk with hk; subst hk; exact .inl (by simp)))); clear ho hg; simp only [Act.put, List.setIfInBounds_toArray, List.set_cons_zero, List.set_cons_succ]))
      go_roundg (gk - 1)
      case measure => omega
      case rel => exact ⟨i + 1, q.set i (frM1 2 (i : Int)), by congr 1, by omega, by omega, by omega, by rw [List.length_set]; exact HQ.out, O6.out, T6.out⟩
    · have hltI : ¬ (i : Int) < (n : Int) + 12 := by omega
      go_wp2_with fail
      go_end0
      exact ⟨rfl, LT_.out⟩
end Go.Proofs.YtgjjdfhoakailaaGreat
namespace Go.Proofs.YtgjjdfhoakailaaGreat
open Go.RowKit Go.Maps Go.Sort Go.Shelf
set_option linter.unusedVariables false
set_option linter.unusedSimpArgs false

/-! api.Put -/
theorem pu_eqIn {i j : Pu} (hi : PuB i) (hj : PuB j) (w : World) : (Op.equalIn 10000 132 (.agg (puC i).toArray) (.agg (puC j).toArray)).run Tryz.prog w = .ok (decide (i = j)) w := by
  have hE := run_equalIn_deep (P := Tryz.prog) 9996 4 132 (by kernel_rfl)
  have ct : Tryz.prog.cellsOf 132 = 35 := by kernel_rfl
  have hf : ∀ i : Pu, (Value.agg (puC i).toArray).formed Tryz.prog 132 = true := fun i => by simp [Value.formed, Tryz.underlying132, ct, puC_len]
  have hc : ∀ i : Pu, (Value.agg (puC i).toArray).cells.toList = puC i := fun i => by simp [Value.cells]
  obtain ⟨r, hr, hrr⟩ := hE w 4 4 _ _ _ _ (hf i) (hf j) (by rw [hc]; exact pu_litsOf 0 hi) (by rw [hc]; exact pu_litsOf 0 hj)
  have e : r = decide (i = j) := by
    by_cases h : i = j
    · rw [decide_eq_true h]
      exact hrr.2 (by rw [h])
    · rw [decide_eq_false h]
      rcases hb : r with _ | _
      · rfl
      · exact absurd (litsPu_inj (hrr.1 hb)) h
  subst e
  exact hr
theorem pu_neq {i j : Pu} (hi : PuB i) (hj : PuB j) (w : World) : (binOp BinOp.neq 132 (.agg (puC i).toArray) (.agg (puC j).toArray)).run Tryz.prog w = .ok (.bool (!decide (i = j))) w := by
  rw [run_neq_struct, pu_eqIn hi hj w]
  rfl
theorem pu_eql {i j : Pu} (hi : PuB i) (hj : PuB j) (w : World) : (binOp BinOp.eql 132 (.agg (puC i).toArray) (.agg (puC j).toArray)).run Tryz.prog w = .ok (.bool (decide (i = j))) w := by
  rw [run_eql_struct, pu_eqIn hi hj w]
  rfl
theorem pu_i : (Tryz.prog.info? 132).map (·.size) = some 35 := by kernel_rfl
theorem pu_has : ∃ (zc : Value) (bytes : Nat), (Tryz.prog.info? 132).map (fun i => (i.zero, i.size, i.bytes)) = some (some zc, 35, bytes) ∧ zc.cells.size = 35 ∧ bytes ≤ 100 := ⟨.agg (puC ⟨0, zSl⟩).toArray, 56, by kernel_rfl, by simp [Value.cells, puC_len], by omega⟩
def puMs (k : Int) (m : Nat) : List Pu := (List.range m).map (fun i : Nat => puM1 k (i : Int))
theorem puMs_succ (k : Int) (m : Nat) : puMs k (m + 1) = puMs k m ++ [puM1 k (m : Int)] := by simp [puMs, List.range_succ]
theorem puMs_len (k : Int) (m : Nat) : (puMs k m).length = m := by simp [puMs]
def puLent (l : List Pu) (n : Nat) (w : World) (e : Ending) (w' : World) : Prop :=
  ∃ g c, e = .returned (.slice (some ⟨g, 0, none⟩) n c) ∧ n + 12 ≤ c ∧ w'.ownsRow w.heap.size 132 35 (.slice (some ⟨g, 0, none⟩) (n + 12) c) (n + 12) ((l ++ puMs 1 12).flatMap puC) ∧ Below w.heap.size w w'
set_option maxRecDepth 100000 in
set_option maxHeartbeats 2000000 in
theorem puLent_any {w : World} {A : Option Addr} {n c : Nat} {l : List Pu} (h : Src w 35 (.slice A n c) n (l.flatMap puC)) (hl : l.length = n) (hn : n ≤ 1000000) :
    Calls Tryz.prog 39 #[.slice A n c] w (puLent l n w) := by
  have H := Lib.hid h
  have HL := Lib.hid hl
  clear h hl
  obtain ⟨zc, bytes, hi, hzs, hby⟩ := pu_has
  obtain ⟨i0, hi0, hz0, hz1, hz2⟩ := info_parts hi
  have HI := Lib.hid hi0
  have HI2 := Lib.hid hi
  have HZ0 := Lib.hid hz0
  have HZ1 := Lib.hid hz1
  have HZ2 := Lib.hid hz2
  have HZs := Lib.hid hzs
  have HBy := Lib.hid hby
  have hmulb : (n + 12) * bytes ≤ 140737488355328 := by
    have := Nat.mul_le_mul (show n + 12 ≤ 1000012 by omega) hby
    omega
  have HMb := Lib.hid (show ∀ q, q ≤ n + 12 → q * bytes ≤ 140737488355328 from fun q hq => Nat.le_trans (Nat.mul_le_mul_right _ hq) hmulb)
  clear hi0 hi hz0 hz1 hz2 hzs hby hmulb
  go_enter Tryz.func39, Tryz.ntmps39
  go_upto_region 4 with (first
    | (at_make; refine wpList_make_own w rfl (.const (.int .i64 0)) (.tmp 7) 33 (by rfl) w.heap.size 132 i0 _ 35 Tryz.underlying33 HI.out HZ0.out HZ1.out .i64 .i64 _ (n + 12) (by rfl) (by rfl) (by omega) (by rw [HZ2.out, Nat.mul_comm]; exact Nat.le_trans (HMb.out _ (Nat.le_refl _)) (by omega)) (by unfold maxLen; omega) (Nat.le_refl _) ?_; intro w1 ho1 hg1; have O1 := Lib.hid ho1; have L1 := Lib.hid (bl_n (Below.refl _ _) hg1); clear ho1 hg1; simp only [Act.put, List.setIfInBounds_toArray, List.set_cons_zero, List.set_cons_succ])
    | (refine app_src rfl (.tmp 9) (.tmp 10) 33 (by rfl) w.heap.size 132 zc 35 bytes Tryz.underlying33 HI2.out HZs.out (by omega) _ 0 _ (by rfl) O1.out _ n _ (by rfl) (H.out.below L1.out) (fun v hv => by obtain ⟨q, _, hq⟩ := List.mem_flatMap.1 hv; exact puC_one q v hq) (by omega) (HMb.out _ (by omega)) L1.out.size ?_; intro v2 w2 ho2 hg2 hor2; have O2 := Lib.hid ho2; have L2 := Lib.hid (L1.out.grown hg2 L1.out.size (fun k hk => (O1.out.lt k hk).1)); clear ho2 hg2 hor2; simp only [Act.put, List.setIfInBounds_toArray, List.set_cons_zero, List.set_cons_succ]))
  go_loopg [3, 4] 12 (fun k v iv wr => ∃ i : Nat, iv = .int .i64 (i : Int) ∧ i ≤ 12 ∧ i + k ≤ 12 ∧ 12 ≤ i + k ∧ wr.ownsRow w.heap.size 132 35 v (n + i) ((l ++ puMs 1 i).flatMap puC) ∧ Below w.heap.size w wr)
  case atStart => exact ⟨0, rfl, by omega, by omega, by omega, by have h := O2.out; simpa [puMs] using h, L2.out⟩
  case round =>
    obtain ⟨i, rfl, i1, i2, i3, ho, hb⟩ := hrel
    have O := Lib.hid ho
    have LB := Lib.hid hb
    clear ho hb O1 O2 L1 L2
    by_cases hi : i < 12
    · have hiI : (i : Int) < 12 := by omega
      have HE := Lib.hid (show (l ++ puMs 1 (i + 1)).flatMap puC = (l ++ puMs 1 i).flatMap puC ++ puC (puM1 1 (i : Int)) by rw [puMs_succ, ← List.append_assoc, List.flatMap_append, List.flatMap_cons, List.flatMap_nil, List.append_nil])
      have hbi : 0 ≤ (i : Int) ∧ (i : Int) ≤ 1000000000000 := by omega
      have HBi := Lib.hid hbi
      clear hbi
      go_wp2_with (first
        | (go_at_call 90; refine (markPut_any 1 i _ (by omega) HBi.out).mono ?_; rintro e w3 ⟨rfl, hb⟩; have L3 := Lib.hid (below_chain LB.out hb); have O3 := Lib.hid (own_belowR O.out hb); clear hb)
        | ((with_reducible show wpList _ _ _ (_ :: _) _ _); refine wpl_lit1 rfl 33 132 (.tmp 18) (by rfl) (puC (puM1 1 (i : Int))) (by rfl) Tryz.underlying33 (by rw [puC_len]; exact HI2.out) (by rw [puC_len]; exact HZs.out) (by rw [puC_len]; omega) (by rw [puC_len]; omega) ?_; intro w4 hk hg hz; have K4 := Lib.hid hk; have L4 := Lib.hid (bl_n L3.out hg); have O4 := Lib.hid (own_belowR O3.out (bl_n (Below.refl _ w3) hg)); clear hk hg hz; simp only [Act.put, List.setIfInBounds_toArray, List.set_cons_zero, List.set_cons_succ])
        | (refine app_src rfl (.tmp 16) (.tmp 19) 33 (by rfl) w.heap.size 132 zc 35 bytes Tryz.underlying33 HI2.out HZs.out (by omega) _ (n + i) _ (by rfl) O4.out (.slice (some ⟨_, 0, none⟩) 1 1) 1 (puC (puM1 1 (i : Int))) (by rfl) ⟨_, 1, rfl, by rw [puC_len], fun _ => ⟨_, 0, rfl, K4.out.lt, fun j y hy => by rw [Nat.zero_add]; exact K4.out.cell (by rw [List.getElem?_toArray]; exact hy)⟩⟩ (puC_one _) (by omega) (HMb.out _ (by omega)) L4.out.size ?_; intro v5 w5 ho2 hg2 hor2; have O5 := Lib.hid ho2; have L5 := Lib.hid (L4.out.grown hg2 L4.out.size (fun k hk => (O4.out.lt k hk).1)); clear ho2 hg2 hor2; simp only [Act.put, List.setIfInBounds_toArray, List.set_cons_zero, List.set_cons_succ]))
      go_roundg (gk - 1)
      case measure => omega
      case rel => exact ⟨i + 1, by congr 1, by omega, by omega, by omega, by rw [HE.out]; exact O5.out, L5.out⟩
    · obtain rfl : i = 12 := by omega
      obtain ⟨g, c1, hv, h1, h2⟩ := O.out.form (by omega)
      obtain ⟨A2, c2, hv2, hc2⟩ := own_slice O.out
      have HC := Lib.hid (show n + 12 ≤ c1 by rw [hv] at hv2; injection hv2 with _ _ e; rw [e]; exact hc2)
      have hc1 : (n : Int) ≤ c1 := by have := HC.out; omega
      subst hv
      clear hv2 hc2 h1 h2
      go_wp2_with fail
      go_ret
      exact ⟨g, c1, rfl, HC.out, O.out, LB.out⟩
set_option maxRecDepth 100000 in
set_option maxHeartbeats 2000000 in
theorem puSame_any {w : World} {A B : Option Addr} {n c d : Nat} {l : List Pu} (h : Src w 35 (.slice A n c) n (l.flatMap puC)) (h' : Src w 35 (.slice B n d) n (l.flatMap puC)) (hl : l.length = n) (hb : ∀ i ∈ l, PuB i) (hn : n ≤ 1000000) :
    Calls Tryz.prog 100 #[.slice A n c, .slice B n d] w fun e w' => e = .returned (.bool true) ∧ Below w.heap.size w w' := by
  have H := Lib.hid h
  have HL := Lib.hid hl
  have H' := Lib.hid h'
  have HB := Lib.hid hb
  clear h hl h' hb
  have d0 : ((n : Int) != n) = false := by simp
  go_enter Tryz.func100, Tryz.ntmps100
  go_upto_region 4 with fail
  go_loopg [5] n (fun k iv wr => ∃ i : Nat, iv = .int .i64 (i : Int) ∧ i ≤ n ∧ i + k ≤ n ∧ n ≤ i + k ∧ Below w.heap.size w wr)
  case atStart => exact ⟨0, rfl, by omega, by omega, by omega, Below.refl _ _⟩
  case round =>
    obtain ⟨i, rfl, i1, i2, i3, hb⟩ := hrel
    have LB := Lib.hid hb
    clear hb
    by_cases hi : i < n
    · have hiI : (i : Int) < (n : Int) := by omega
      have hil : i < l.length := by rw [HL.out]; exact hi
      obtain ⟨b, off, hA, hx⟩ := src_part puC_len (H.out.below LB.out) HL.out hil
      obtain ⟨b', off', hA', hy⟩ := src_part puC_len (H'.out.below LB.out) HL.out hil
      have fq := fun w => pu_neq (HB.out _ (List.getElem_mem hil)) (HB.out _ (List.getElem_mem hil)) w
      generalize l[i] = x at hx hy fq
      subst hA hA'
      have d1 : decide (x = x) = true := decide_eq_true rfl
      simp only [d1, Bool.not_true] at fq
      go_upto_region 6 with fail
      refine wp_region_qs (fun _ w' => w'.rangeAt b (off + i * 35) (puC x) ∧ w'.rangeAt b' (off' + i * 35) (puC x)) [(0, some 0), (1, some 0), (2, some 0), (3, some 0), (4, some 0), (5, some 0), (6, some 0), (7, some 0), (8, some 0)] (by kernel_rfl) (by kernel_rfl) (by kernel_rfl) (by kernel_rfl) (by kernel_rfl) (fun _ _ _ _ _ h => h) ⟨hx, hy⟩ ?_
      simp only [List.map_cons, List.map_nil, List.getD_cons_succ, List.getD_cons_zero]
      (repeat (first | ((first | (refine qs_row (by rfl) 132 (.tmp 19) rfl b (off + i * 35) rfl (puC x) _ (fun j w' _ h2 h => h.1) Tryz.underlying132 rfl (puC_info x) ?_) | (refine qs_row (by rfl) 132 (.tmp 23) rfl b' (off' + i * 35) rfl (puC x) _ (fun j w' _ h2 h => h.2) Tryz.underlying132 rfl (puC_info x) ?_)); simp only [Act.put, List.setIfInBounds_toArray, List.set_cons_zero, List.set_cons_succ]) | (refine qs_now (v := ?_) (by rfl) ?_ ?_; rotate_left 1; (· (intro w' hS; go_simp; (try (simp only [↓IntWalk.iteOmega]; go_simp)); (try simp (disch := omega) only [IntWalk.i64_in]); try with_reducible rfl)); simp only [Act.put, List.setIfInBounds_toArray, List.set_cons_zero, List.set_cons_succ]) | (refine qs_run (v := ?_) (by rfl) ?_ ?_; rotate_left 1; (· (intro j w' hS; go_simp; (try (simp only [↓IntWalk.iteOmega]; go_simp)); (try simp (disch := omega) only [IntWalk.i64_in]); try with_reducible rfl)); simp only [Act.put, List.setIfInBounds_toArray, List.set_cons_zero, List.set_cons_succ]) | (refine qs_mid (v := ?_) (by rfl) ?_ ?_; rotate_left 1; (· (intro j w' hj1 hj2 hS; go_simp; (try (simp only [↓IntWalk.iteOmega]; go_simp)); (try simp (disch := omega) only [IntWalk.i64_in]); try with_reducible rfl)); simp only [Act.put, List.setIfInBounds_toArray, List.set_cons_zero, List.set_cons_succ]) | (refine qs_skip (by rfl) ?_; simp only [Act.put, List.setIfInBounds_toArray, List.set_cons_zero, List.set_cons_succ])))
      refine qs_nil ?_
      go_wp2_with fail
      go_roundg (gk - 1)
      case measure => omega
      case rel => exact ⟨i + 1, by congr 1, by omega, by omega, by omega, LB.out.drew⟩
    · have hiI : ¬ (i : Int) < (n : Int) := by omega
      go_wp2_with fail
      go_ret
      exact ⟨rfl, LB.out⟩
set_option maxRecDepth 100000 in
set_option maxHeartbeats 4000000 in
/-- What was lent, and has not turned, is kept. -/
theorem puKept_any {w : World} {A : Option Addr} {base g n c cap : Nat} {l : List Pu} (h : Src w 35 (.slice A n cap) n (l.flatMap puC)) (hl : l.length = n) (ho : w.ownsRow base 132 35 (.slice (some ⟨g, 0, none⟩) (n + 12) c) (n + 12) ((l ++ puMs 1 12).flatMap puC)) (hc : n + 12 ≤ c) (hb : ∀ i ∈ l, PuB i) (hn : n ≤ 1000000) :
    Calls Tryz.prog 60 #[.slice (some ⟨g, 0, none⟩) n c, .slice A n cap] w fun e w' => e = .returned (.bool true) ∧ Below w.heap.size w w' := by
  have H := Lib.hid h
  have HL := Lib.hid hl
  have HO := Lib.hid ho
  have HB := Lib.hid hb
  clear h hl ho hb
  have d0 : ((n : Int) != n) = false := by simp
  have hcI : (n : Int) + 12 ≤ c := by omega
  go_enter Tryz.func60, Tryz.ntmps60
  go_upto_region 5 with fail
  go_loopg [6] (n + 12) (fun k iv wr => ∃ i : Nat, iv = .int .i64 (i : Int) ∧ i ≤ n + 12 ∧ i + k ≤ n + 12 ∧ n + 12 ≤ i + k ∧ Below w.heap.size w wr)
  case atStart => exact ⟨0, rfl, by omega, by omega, by omega, Below.refl _ _⟩
  case round =>
    obtain ⟨i, rfl, i1, i2, i3, hb⟩ := hrel
    have LB := Lib.hid hb
    clear hb
    by_cases hlt : i < n + 12
    · have hltI : (i : Int) < (n : Int) + 12 := by omega
      have hlen : (l ++ puMs 1 12).length = n + 12 := by rw [List.length_append, HL.out, puMs_len]
      have hil : i < (l ++ puMs 1 12).length := by rw [hlen]; exact hlt
      obtain ⟨b0, off0, hA0, hx0⟩ := src_part puC_len (Src.of_own (own_belowR HO.out LB.out)) hlen hil
      injection hA0 with hA0
      injection hA0 with e1 e2
      subst e1 e2
      rw [Nat.zero_add] at hx0
      by_cases hin : i < n
      · have d1 : decide ((i : Int) < n) = true := by simp; omega
        have d2 : decide ((n : Int) ≤ i) = false := by simp; omega
        have d1' : decide (i < n) = true := by simpa using hin
        have d2' : decide (n ≤ i) = false := by simp; omega
        have hiI : (i : Int) < n := by omega
        have hil2 : i < l.length := by rw [HL.out]; exact hin
        obtain ⟨b, off, hA, hy⟩ := src_part puC_len (H.out.below LB.out) HL.out hil2
        have fq := fun w => pu_eql (HB.out _ (List.getElem_mem hil2)) (HB.out _ (List.getElem_mem hil2)) w
        rw [List.getElem_append_left hil2] at hx0
        generalize l[i] = x at hx0 hy fq
        subst hA
        have q1 : decide (x = x) = true := decide_eq_true rfl
        simp only [q1] at fq
        have HX0 := Lib.hid hx0
        have HY0 := Lib.hid hy
        clear hlen hil hil2 hx0 hy
        go_upto_region 7 with fail
        refine wp_region_qs (fun _ w' => w'.rangeAt g (i * 35) (puC x) ∧ w'.rangeAt b (off + i * 35) (puC x)) [(0, some 1), (1, some 1), (2, some 1), (3, some 1), (4, some 1), (5, some 1), (6, some 1), (7, some 1), (8, some 1), (9, some 1), (10, some 1), (11, some 1), (12, some 1), (13, some 1), (14, some 1), (15, some 1), (16, some 1), (17, some 1), (18, some 1), (19, some 1), (20, some 1), (21, some 0), (22, some 1), (23, some 1), (24, some 1), (25, some 1), (26, some 1), (27, some 1), (28, some 1), (29, some 0), (30, none), (31, some 1), (32, some 1), (33, some 1), (34, some 1)] (by kernel_rfl) (by kernel_rfl) (by kernel_rfl) (by kernel_rfl) (by kernel_rfl) (fun _ _ _ _ _ h => h) ⟨HX0.out, HY0.out⟩ ?_
        simp only [List.map_cons, List.map_nil, List.getD_cons_succ, List.getD_cons_zero]
        (repeat (first | ((first | (refine qs_row (by rfl) 132 (.tmp 30) rfl g (i * 35) rfl (puC x) _ (fun j w' _ h2 h => h.1) Tryz.underlying132 rfl (puC_info x) ?_) | (refine qs_row (by rfl) 132 (.tmp 34) rfl b (off + i * 35) rfl (puC x) _ (fun j w' _ h2 h => h.2) Tryz.underlying132 rfl (puC_info x) ?_)); simp only [Act.put, List.setIfInBounds_toArray, List.set_cons_zero, List.set_cons_succ]) | (refine qs_now (v := ?_) (by rfl) ?_ ?_; rotate_left 1; (· (intro w' hS; go_simp; (try (simp only [↓IntWalk.iteOmega]; go_simp)); (try simp (disch := omega) only [IntWalk.i64_in]); try with_reducible rfl)); simp only [Act.put, List.setIfInBounds_toArray, List.set_cons_zero, List.set_cons_succ]) | (refine qs_run (v := ?_) (by rfl) ?_ ?_; rotate_left 1; (· (intro j w' hS; go_simp; (try (simp only [↓IntWalk.iteOmega]; go_simp)); (try simp (disch := omega) only [IntWalk.i64_in]); try with_reducible rfl)); simp only [Act.put, List.setIfInBounds_toArray, List.set_cons_zero, List.set_cons_succ]) | (refine qs_mid (v := ?_) (by rfl) ?_ ?_; rotate_left 1; (· (intro j w' hj1 hj2 hS; go_simp; (try (simp only [↓IntWalk.iteOmega]; go_simp)); (try simp (disch := omega) only [IntWalk.i64_in]); try with_reducible rfl)); simp only [Act.put, List.setIfInBounds_toArray, List.set_cons_zero, List.set_cons_succ]) | (refine qs_skip (by rfl) ?_; simp only [Act.put, List.setIfInBounds_toArray, List.set_cons_zero, List.set_cons_succ])))
        refine qs_act ?_
        go_wp2_with fail
        refine ⟨⟨HX0.out, HY0.out⟩, ?_⟩
        (repeat (first | (refine qs_now (v := ?_) (by rfl) ?_ ?_; rotate_left 1; (· (intro w' hS; go_simp; (try (simp only [↓IntWalk.iteOmega]; go_simp)); (try simp (disch := omega) only [IntWalk.i64_in]); try with_reducible rfl)); simp only [Act.put, List.setIfInBounds_toArray, List.set_cons_zero, List.set_cons_succ]) | (refine qs_run (v := ?_) (by rfl) ?_ ?_; rotate_left 1; (· (intro j w' hS; go_simp; (try (simp only [↓IntWalk.iteOmega]; go_simp)); (try simp (disch := omega) only [IntWalk.i64_in]); try with_reducible rfl)); simp only [Act.put, List.setIfInBounds_toArray, List.set_cons_zero, List.set_cons_succ]) | (refine qs_mid (v := ?_) (by rfl) ?_ ?_; rotate_left 1; (· (intro j w' hj1 hj2 hS; go_simp; (try (simp only [↓IntWalk.iteOmega]; go_simp)); (try simp (disch := omega) only [IntWalk.i64_in]); try with_reducible rfl)); simp only [Act.put, List.setIfInBounds_toArray, List.set_cons_zero, List.set_cons_succ]) | (refine qs_skip (by rfl) ?_; simp only [Act.put, List.setIfInBounds_toArray, List.set_cons_zero, List.set_cons_succ])))
        refine qs_nil ?_
        go_wp2_with fail
        go_roundg (gk - 1)
        case measure => omega
        case rel => exact ⟨i + 1, by congr 1, by omega, by omega, by omega, LB.out.drew⟩
      · have d1 : decide ((i : Int) < n) = false := by simp; omega
        have d2 : decide ((n : Int) ≤ i) = true := by simp; omega
        have d1' : decide (i < n) = false := by simpa using hin
        have d2' : decide (n ≤ i) = true := by simp; omega
        obtain ⟨j, hj⟩ : ∃ j, j = i - n := ⟨_, rfl⟩
        have hsub : (i : Int) - n = (j : Int) := by omega
        have HSub := Lib.hid hsub
        have hj12 : j < 12 := by omega
        have hwr : IntKind.i64.wrap ((i : Int) - n) = (j : Int) := by rw [HSub.out]; exact IntWalk.i64_in _ (by omega)
        have hx1 : (l ++ puMs 1 12)[i] = puM1 1 (j : Int) := by
          rw [List.getElem_append_right (by rw [HL.out]; omega)]
          simp only [puMs, List.getElem_map, List.getElem_range, HL.out, hj]
        rw [hx1] at hx0
        clear hsub hj hx1 hlen hil
        have HBj := Lib.hid (show 0 ≤ (j : Int) ∧ (j : Int) ≤ 1000000000000 by omega)
        have fq := fun w => pu_eql (puM1_B (k := 1) (by omega) HBj.out) (puM1_B (k := 1) (by omega) HBj.out) w
        obtain ⟨y, hy⟩ : ∃ y, y = puM1 1 (j : Int) := ⟨_, rfl⟩
        have HY := Lib.hid hy
        rw [← hy] at hx0 fq
        clear hy
        have q1 : decide (y = y) = true := decide_eq_true rfl
        simp only [q1] at fq
        have HX0 := Lib.hid hx0
        clear hx0
        go_upto_region 7 with fail
        refine wp_region_qs (fun _ w' => w'.rangeAt g (i * 35) (puC y)) [(0, some 1), (1, some 1), (2, some 1), (3, some 1), (4, some 1), (5, some 1), (6, some 1), (7, some 1), (8, some 1), (9, some 1), (10, some 1), (11, some 1), (12, some 1), (13, some 1), (14, some 1), (15, some 1), (16, some 1), (17, some 1), (18, some 1), (19, some 1), (20, some 1), (21, some 0), (22, some 1), (23, some 1), (24, some 1), (25, some 1), (26, some 1), (27, some 1), (28, some 1), (29, some 0), (30, none), (31, some 1), (32, some 1), (33, some 1), (34, some 1)] (by kernel_rfl) (by kernel_rfl) (by kernel_rfl) (by kernel_rfl) (by kernel_rfl) (fun _ _ _ _ _ h => h) HX0.out ?_
        simp only [List.map_cons, List.map_nil, List.getD_cons_succ, List.getD_cons_zero]
        (repeat (first | ((refine qs_row (by rfl) 132 (.tmp 47) rfl g (i * 35) rfl (puC y) _ (fun j w' _ h2 h => h) Tryz.underlying132 rfl (puC_info y) ?_); simp only [Act.put, List.setIfInBounds_toArray, List.set_cons_zero, List.set_cons_succ]) | (refine qs_now (v := ?_) (by rfl) ?_ ?_; rotate_left 1; (· (intro w' hS; go_simp; (try (simp only [↓IntWalk.iteOmega]; go_simp)); (try simp (disch := omega) only [IntWalk.i64_in]); try with_reducible rfl)); simp only [Act.put, List.setIfInBounds_toArray, List.set_cons_zero, List.set_cons_succ]) | (refine qs_run (v := ?_) (by rfl) ?_ ?_; rotate_left 1; (· (intro j w' hS; go_simp; (try (simp only [↓IntWalk.iteOmega]; go_simp)); (try simp (disch := omega) only [IntWalk.i64_in]); try with_reducible rfl)); simp only [Act.put, List.setIfInBounds_toArray, List.set_cons_zero, List.set_cons_succ]) | (refine qs_mid (v := ?_) (by rfl) ?_ ?_; rotate_left 1; (· (intro j w' hj1 hj2 hS; go_simp; (try (simp only [↓IntWalk.iteOmega]; go_simp)); (try simp (disch := omega) only [IntWalk.i64_in]); try with_reducible rfl)); simp only [Act.put, List.setIfInBounds_toArray, List.set_cons_zero, List.set_cons_succ]) | (refine qs_skip (by rfl) ?_; simp only [Act.put, List.setIfInBounds_toArray, List.set_cons_zero, List.set_cons_succ])))
        refine qs_act ?_
        go_wp2_with (go_at_call 90; refine (markPut_any 1 j _ (by omega) HBj.out).mono ?_; rintro ev w4 ⟨rfl, hb⟩; rewrite [← HY.out]; have L4 := Lib.hid hb; clear hb)
        refine ⟨blk_rng (w := wr.drew) HX0.out L4.out (by rw [puC_len]; omega), ?_⟩
        (repeat (first | (refine qs_now (v := ?_) (by rfl) ?_ ?_; rotate_left 1; (· (intro w' hS; go_simp; (try (simp only [↓IntWalk.iteOmega]; go_simp)); (try simp (disch := omega) only [IntWalk.i64_in]); try with_reducible rfl)); simp only [Act.put, List.setIfInBounds_toArray, List.set_cons_zero, List.set_cons_succ]) | (refine qs_run (v := ?_) (by rfl) ?_ ?_; rotate_left 1; (· (intro j w' hS; go_simp; (try (simp only [↓IntWalk.iteOmega]; go_simp)); (try simp (disch := omega) only [IntWalk.i64_in]); try with_reducible rfl)); simp only [Act.put, List.setIfInBounds_toArray, List.set_cons_zero, List.set_cons_succ]) | (refine qs_mid (v := ?_) (by rfl) ?_ ?_; rotate_left 1; (· (intro j w' hj1 hj2 hS; go_simp; (try (simp only [↓IntWalk.iteOmega]; go_simp)); (try simp (disch := omega) only [IntWalk.i64_in]); try with_reducible rfl)); simp only [Act.put, List.setIfInBounds_toArray, List.set_cons_zero, List.set_cons_succ]) | (refine qs_skip (by rfl) ?_; simp only [Act.put, List.setIfInBounds_toArray, List.set_cons_zero, List.set_cons_succ])))
        refine qs_nil ?_
        clear hwr
        go_wp2_with fail
        go_roundg (gk - 1)
        case measure => omega
        case rel => exact ⟨i + 1, by congr 1, by omega, by omega, by omega, below_chain LB.out.drew L4.out⟩
    · obtain rfl : i = n + 12 := by omega
      go_wp2_with fail
      go_ret
      exact ⟨rfl, LB.out⟩
set_option maxRecDepth 100000 in
set_option maxHeartbeats 2000000 in
theorem puOver_any {w : World} {base g n c : Nat} {l : List Pu} (ho : w.ownsRow base 132 35 (.slice (some ⟨g, 0, none⟩) (n + 12) c) (n + 12) (l.flatMap puC)) (hl : l.length = n + 12) (hc : n + 12 ≤ c) (hn : n ≤ 1000000) :
    Calls Tryz.prog 62 #[.slice (some ⟨g, 0, none⟩) n c] w fun e w' => e = .returned (.tuple #[]) ∧ Tch [g] w w' := by
  have HO := Lib.hid ho
  have HL := Lib.hid hl
  clear ho hl
  have hcI : (n : Int) + 12 ≤ c := by omega
  go_enter Tryz.func62, Tryz.ntmps62
  go_upto_region 2 with fail
  go_loopg [3] (n + 12) (fun k iv wr => ∃ (i : Nat) (q : List Pu), iv = .int .i64 (i : Int) ∧ i ≤ n + 12 ∧ i + k ≤ n + 12 ∧ n + 12 ≤ i + k ∧ q.length = n + 12 ∧ wr.ownsRow base 132 35 (.slice (some ⟨g, 0, none⟩) (n + 12) c) (n + 12) (q.flatMap puC) ∧ Tch [g] w wr)
  case atStart => exact ⟨0, l, rfl, by omega, by omega, by omega, HL.out, HO.out, Tch.refl _ _⟩
  case round =>
    obtain ⟨i, q, rfl, i1, i2, i3, hq, ho, hb⟩ := hrel
    have HQ := Lib.hid hq
    have O := Lib.hid ho
    have LT_ := Lib.hid hb
    clear hq ho hb
    by_cases hlt : i < n + 12
    · have hltI : (i : Int) < (n : Int) + 12 := by omega
      have HBi := Lib.hid (show 0 ≤ (i : Int) ∧ (i : Int) ≤ 1000000000000 by omega)
      go_wp2_with (first
        | (go_at_call 90; refine (markPut_any 2 i _ (by omega) HBi.out).mono ?_; rintro ev w4 ⟨rfl, hb⟩; have T4 := Lib.hid (LT_.out.trans (Tch.below hb)); have O4 := Lib.hid (own_belowR O.out hb); clear hb)
        | ((with_reducible show wpList _ _ _ (_ :: _) _ _); refine wpl_sidx rfl 33 (.tmp 15) (.tmp 16) (by rfl) Tryz.underlying33 Tryz.sizeOf132 g 0 (n + 12) c i (by rfl) (by rfl) hlt ?_; simp only [Act.put, List.setIfInBounds_toArray, List.set_cons_zero, List.set_cons_succ])
        | ((with_reducible show wpList _ _ _ (_ :: _) _ _); refine wpl_store_own puC_len puC_one rfl 132 (.tmp 19) (.tmp 18) (by rfl) base g i (n + 12) c _ 132 q (puM1 2 (i : Int)) (by rfl) (by omega) (by rfl) O4.out HQ.out hlt pu_i ?_; intro w6 ho hg; have O6 := Lib.hid ho; have T6 := Lib.hid (T4.out.trans (Tch.grown hg (fun k hk => by injection hk with hk; subst hk; exact .inl (by simp)))); clear ho hg; simp only [Act.put, List.setIfInBounds_toArray, List.set_cons_zero, List.set_cons_succ]))
      go_roundg (gk - 1)
      case measure => omega
      case rel => exact ⟨i + 1, q.set i (puM1 2 (i : Int)), by congr 1, by omega, by omega, by omega, by rw [List.length_set]; exact HQ.out, O6.out, T6.out⟩
    · have hltI : ¬ (i : Int) < (n : Int) + 12 := by omega
      go_wp2_with fail
      go_end0
      exact ⟨rfl, LT_.out⟩
end Go.Proofs.YtgjjdfhoakailaaGreat
namespace Go.Proofs.YtgjjdfhoakailaaGreat
open Go.RowKit Go.Maps Go.Sort Go.Shelf
set_option linter.unusedVariables false
set_option linter.unusedSimpArgs false

theorem src_pre {w : World} {sz n k c : Nat} {A : Option Addr} {xs ys : List Value} (h : Src w sz (.slice A (n + k) c) (n + k) (xs ++ ys)) (hx : xs.length = n * sz) : Src w sz (.slice A n c) n xs := by
  obtain ⟨A', c', e, _, hc⟩ := h
  injection e with e1 e2 e3
  subst e1 e3
  refine ⟨A, c, rfl, hx, fun hn => ?_⟩
  obtain ⟨b, off, hA, hlt, hcell⟩ := hc (by omega)
  refine ⟨b, off, hA, hlt, fun j y hy => hcell j y ?_⟩
  have hj := (List.getElem?_eq_some_iff.1 hy).1
  rw [List.getElem?_append_left hj]
  exact hy
/-- What LentOp gives. -/
structure LentO (w : World) (base : Nat) (o : OpV) (ga ca gb cb : Nat) : Prop where
  fr : w.ownsRow base 130 36 (.slice (some ⟨ga, 0, none⟩) (o.news.length + 12) ca) (o.news.length + 12) ((o.news ++ frMs 1 12).flatMap frC)
  pu : w.ownsRow base 132 35 (.slice (some ⟨gb, 0, none⟩) (o.puts.length + 12) cb) (o.puts.length + 12) ((o.puts ++ puMs 1 12).flatMap puC)
  frc : o.news.length + 12 ≤ ca
  puc : o.puts.length + 12 ≤ cb
section
variable {w w' : World} {base : Nat} {o : OpV} {ga ca gb cb : Nat}
theorem LentO.at_ (h : LentO w base o ga ca gb cb) : OpAt w o (some ⟨ga, 0, none⟩) ca (some ⟨gb, 0, none⟩) cb := by
  have h1 := Src.of_own h.fr
  have h2 := Src.of_own h.pu
  rw [List.flatMap_append] at h1 h2
  exact ⟨src_pre h1 (fm_length frC_len _), src_pre h2 (fm_length puC_len _)⟩
theorem LentO.below (h : LentO w base o ga ca gb cb) (hb : Below w.heap.size w w') : LentO w' base o ga ca gb cb := ⟨own_belowR h.fr hb, own_belowR h.pu hb, h.frc, h.puc⟩
theorem LentO.ga_at (h : LentO w base o ga ca gb cb) : base ≤ ga ∧ ga < w.heap.size := own_at h.fr _ rfl
theorem LentO.gb_at (h : LentO w base o ga ca gb cb) : base ≤ gb ∧ gb < w.heap.size := own_at h.pu _ rfl
end
def LentOPost (o : OpV) (w : World) (e : Ending) (w' : World) : Prop :=
  ∃ ga ca gb cb, e = .returned (.agg (opC o (some ⟨ga, 0, none⟩) ca (some ⟨gb, 0, none⟩) cb).toArray) ∧ LentO w' w.heap.size o ga ca gb cb ∧ Below w.heap.size w w'
set_option maxRecDepth 100000 in
set_option maxHeartbeats 1000000 in
theorem lentOp_any {w : World} {o : OpV} {A : Option Addr} {c : Nat} {B : Option Addr} {d : Nat} (h : OpAt w o A c B d) (hn : o.news.length ≤ 1000000) (hm : o.puts.length ≤ 1000000) :
    Calls Tryz.prog 13 #[.agg (opC o A c B d).toArray] w (LentOPost o w) := by
  have H := Lib.hid h
  clear h
  go_enter Tryz.func13, Tryz.ntmps13
  go_upto_region 1 with (first
    | ((with_reducible show wpList _ _ _ (_ :: _) _ _); refine wpl_box rfl 35 (.tmp 0) (by rfl) (opC o A c B d).toArray (by rfl) ?_; intro w1 hk hg hz; have K1 := Lib.hid hk; have L1 := Lib.hid (bl_n (Below.refl _ w) hg); clear hk hg hz; simp only [Act.put, List.setIfInBounds_toArray, List.set_cons_zero, List.set_cons_succ])
    | ((with_reducible show wpList _ _ _ (_ :: _) _ _); refine wpl_alloc rfl 35 (by rfl) Tryz.zeroValue35 6 (by rfl) ?_; intro w2 cs hk hc hg hz; have K2 := Lib.hid hk; have C2 := Lib.hid hc; have L2 := Lib.hid (bl_n (Below.refl _ w1) hg); clear hk hc hg hz; simp only [Act.put, List.setIfInBounds_toArray, List.set_cons_zero, List.set_cons_succ]))
  have LL := Lib.hid (below_chain L1.out L2.out)
  have KB := Lib.hid (K1.out.below L2.out K1.out.lt)
  have c4 := KB.out.cell (i := 4) (v := .slice A o.news.length c) rfl
  have H2 := Lib.hid (H.out.below LL.out)
  go_upto_region 2 with (first
    | (go_at_call 38; refine (frLent_any H2.out.news rfl hn).mono ?_; rintro e w3 ⟨ga, ca, rfl, hca, ho, hb⟩; have CA := Lib.hid hca; have O3 := Lib.hid (own_loR ho LL.out.size); have K3 := Lib.hid (KB.out.below hb KB.out.lt); have R3 := Lib.hid (K2.out.below hb K2.out.lt); have L3 := Lib.hid (below_chain LL.out hb); have c4' := K3.out.cell (i := 4) (v := .slice A o.news.length c) rfl; have f4 := K3.out.free 4; clear hca ho hb))
  obtain ⟨w4, hw4⟩ : ∃ v, v = w3.setCell ⟨w.heap.size, 4, none⟩ (.slice (some ⟨ga, 0, none⟩) o.news.length ca) := ⟨_, rfl⟩
  rw [← hw4]
  have hg4 : w3.grownBy w4 (some w.heap.size) := by rw [hw4]; exact grown_put _ ⟨w.heap.size, 4, none⟩ _
  have K4 := Lib.hid (show Blk w4 w.heap.size 35 (opC o (some ⟨ga, 0, none⟩) ca B d).toArray by rw [hw4]; exact K3.out.put 4 _)
  have hne := own_blk O3.out K3.out (by decide)
  have O4 := Lib.hid (own_keptR O3.out hg4 (fun b hb hv => hne (by rw [hv, hb])))
  have R4 := Lib.hid (R3.out.grown hg4 (fun e => by injection e with e; have := L1.out.size; have := K1.out.lt; omega))
  have L4 := Lib.hid (show Below w.heap.size w w4 from L3.out.grown hg4 L3.out.size (fun k hk => by injection hk with hk; omega))
  clear hw4 hg4 hne c4 c4' f4 K3 O3 R3 L3 KB
  have H4 := Lib.hid (H.out.below L4.out)
  have c5 := K4.out.cell (i := 5) (v := .slice B o.puts.length d) rfl
  go_upto_region 3 with (first
    | (go_at_call 39; refine (puLent_any H4.out.puts rfl hm).mono ?_; rintro e w5 ⟨gb, cb, rfl, hcb, ho, hb⟩; have CB := Lib.hid hcb; have P5 := Lib.hid (own_loR ho L4.out.size); have O5 := Lib.hid (own_belowR O4.out hb); have K5 := Lib.hid (K4.out.below hb K4.out.lt); have R5 := Lib.hid (R4.out.below hb R4.out.lt); have L5 := Lib.hid (below_chain L4.out hb); have c5' := K5.out.cell (i := 5) (v := .slice B o.puts.length d) rfl; have f5 := K5.out.free 5; clear hcb ho hb))
  obtain ⟨w6, hw6⟩ : ∃ v, v = w5.setCell ⟨w.heap.size, 5, none⟩ (.slice (some ⟨gb, 0, none⟩) o.puts.length cb) := ⟨_, rfl⟩
  rw [← hw6]
  have hg6 : w5.grownBy w6 (some w.heap.size) := by rw [hw6]; exact grown_put _ ⟨w.heap.size, 5, none⟩ _
  have K6 := Lib.hid (show Blk w6 w.heap.size 35 (opC o (some ⟨ga, 0, none⟩) ca (some ⟨gb, 0, none⟩) cb).toArray by rw [hw6]; exact K5.out.put 5 _)
  have hne1 := own_blk O5.out K5.out (by decide)
  have hne2 := own_blk P5.out K5.out (by decide)
  have O6 := Lib.hid (own_keptR O5.out hg6 (fun b hb hv => hne1 (by rw [hv, hb])))
  have P6 := Lib.hid (own_keptR P5.out hg6 (fun b hb hv => hne2 (by rw [hv, hb])))
  have R6 := Lib.hid (R5.out.grown hg6 (fun e => by injection e with e; have := L1.out.size; have := K1.out.lt; omega))
  have L6 := Lib.hid (show Below w.heap.size w w6 from L5.out.grown hg6 L5.out.size (fun k hk => by injection hk with hk; omega))
  have RR := Lib.hid (show w6.rangeAt w.heap.size 0 (opC o (some ⟨ga, 0, none⟩) ca (some ⟨gb, 0, none⟩) cb) by have := K6.out.range; rwa [toArr] at this)
  clear hw6 hg6 hne1 hne2 c5 c5' f5 K5 O5 P5 R5 L5
  go_wp2_with (first
    | ((with_reducible show wpList _ _ _ (_ :: _) _ _); refine wpList_load_mid rfl 35 (.tmp 1) (by rfl) w.heap.size 0 (by rfl) (opC o (some ⟨ga, 0, none⟩) ca (some ⟨gb, 0, none⟩) cb) _ RR.out Tryz.underlying35 rfl (opC_info _ _ _ _ _) ?_; simp only [Act.put, List.setIfInBounds_toArray, List.set_cons_zero, List.set_cons_succ])
    | ((with_reducible show wpList _ _ _ (_ :: _) _ _); refine wpl_over rfl 35 (.tmp 2) (.tmp 11) (by rfl) w1.heap.size (opC o (some ⟨ga, 0, none⟩) ca (some ⟨gb, 0, none⟩) cb) (by rfl) (by rfl) _ cs R6.out (opC_info _ _ _ _ _) (by rw [C2.out]; rfl) (opC_one _ _ _ _ _) ?_; intro w7 hk hg hz; have K7 := Lib.hid hk; have G7 := Lib.hid hg; clear hk hg hz; simp only [Act.put, List.setIfInBounds_toArray, List.set_cons_zero, List.set_cons_succ]))
  have hn1 := own_blk O6.out R6.out (by decide)
  have hn2 := own_blk P6.out R6.out (by decide)
  refine bodyPost_ret (results_blk rfl _ w1.heap.size rfl _ _ K7.out _ Tryz.underlying35 rfl 6 (by kernel_rfl) rfl) rfl ?_
  refine ⟨ga, ca, gb, cb, rfl, ⟨own_keptR O6.out G7.out (fun b hb hv => hn1 (by rw [hv, hb])), own_keptR P6.out G7.out (fun b hb hv => hn2 (by rw [hv, hb])), CA.out, CB.out⟩, ?_⟩
  exact L6.out.grown G7.out L6.out.size (fun k hk => by injection hk with hk; have := L1.out.size; omega)
set_option maxRecDepth 100000 in
set_option maxHeartbeats 1000000 in
theorem sameOp_any {w : World} {o : OpV} {A A' : Option Addr} {c c' : Nat} {B B' : Option Addr} {d d' : Nat} (h : OpAt w o A c B d) (h' : OpAt w o A' c' B' d') (hb : OpB o) (hn : o.news.length ≤ 1000000) (hm : o.puts.length ≤ 1000000) :
    Calls Tryz.prog 58 #[.agg (opC o A c B d).toArray, .agg (opC o A' c' B' d').toArray] w fun e w' => e = .returned (.bool true) ∧ Below w.heap.size w w' := by
  have H := Lib.hid h
  have H' := Lib.hid h'
  have HB := Lib.hid hb
  have d1 : (o.kind == o.kind) = true := beq_self_eq_true _
  have d2 : (o.pos == o.pos) = true := beq_self_eq_true _
  have d3 : (o.n == o.n) = true := beq_self_eq_true _
  have d4 : (o.snap == o.snap) = true := beq_self_eq_true _
  clear h h' hb
  go_enter Tryz.func58, Tryz.ntmps58
  go_upto_region 1 with (first
    | ((with_reducible show wpList _ _ _ (_ :: _) _ _); refine wpl_box rfl 35 (.tmp 0) (by rfl) (opC o A c B d).toArray (by rfl) ?_; intro w1 hk hg hz; have K1 := Lib.hid hk; have L1 := Lib.hid (bl_n (Below.refl _ w) hg); clear hk hg hz; simp only [Act.put, List.setIfInBounds_toArray, List.set_cons_zero, List.set_cons_succ])
    | ((with_reducible show wpList _ _ _ (_ :: _) _ _); refine wpl_box rfl 35 (.tmp 1) (by rfl) (opC o A' c' B' d').toArray (by rfl) ?_; intro w2 hk hg hz; have K2 := Lib.hid hk; have L2 := Lib.hid (bl_n (Below.refl _ w1) hg); clear hk hg hz; simp only [Act.put, List.setIfInBounds_toArray, List.set_cons_zero, List.set_cons_succ]))
  have LL := Lib.hid (below_chain L1.out L2.out)
  have KB := Lib.hid (K1.out.below L2.out K1.out.lt)
  have a0 := KB.out.cell (i := 0) (v := .int .u8 o.kind) rfl
  have a1 := KB.out.cell (i := 1) (v := .int .i64 o.pos) rfl
  have a2 := KB.out.cell (i := 2) (v := .int .i64 o.n) rfl
  have a3 := KB.out.cell (i := 3) (v := .int .i64 o.snap) rfl
  have a4 := KB.out.cell (i := 4) (v := .slice A o.news.length c) rfl
  have a5 := KB.out.cell (i := 5) (v := .slice B o.puts.length d) rfl
  have b0 := K2.out.cell (i := 0) (v := .int .u8 o.kind) rfl
  have b1 := K2.out.cell (i := 1) (v := .int .i64 o.pos) rfl
  have b2 := K2.out.cell (i := 2) (v := .int .i64 o.n) rfl
  have b3 := K2.out.cell (i := 3) (v := .int .i64 o.snap) rfl
  have b4 := K2.out.cell (i := 4) (v := .slice A' o.news.length c') rfl
  have b5 := K2.out.cell (i := 5) (v := .slice B' o.puts.length d') rfl
  have H2 := Lib.hid (H.out.below LL.out)
  have H2' := Lib.hid (H'.out.below LL.out)
  go_wp2_with (first
    | (go_at_call 99; refine (frSame_any H2.out.news H2'.out.news rfl HB.out.2.2.2.2.1 hn).mono ?_; rintro e w3 ⟨rfl, hb⟩; have L3 := Lib.hid hb; have a5' := (KB.out.below hb KB.out.lt).cell (i := 5) (v := .slice B o.puts.length d) rfl; have b5' := (K2.out.below hb K2.out.lt).cell (i := 5) (v := .slice B' o.puts.length d') rfl; have H3 := Lib.hid (H2.out.below hb); have H3' := Lib.hid (H2'.out.below hb); clear hb)
    | (go_at_call 100; refine (puSame_any H3.out.puts H3'.out.puts rfl HB.out.2.2.2.2.2.1 hm).mono ?_; rintro e w4 ⟨rfl, hb⟩; have L4 := Lib.hid (below_chain L3.out hb); clear hb))
  go_ret
  exact ⟨rfl, below_chain LL.out L4.out⟩
set_option maxRecDepth 100000 in
set_option maxHeartbeats 1000000 in
theorem keptOp_any {w : World} {base : Nat} {o : OpV} {ga ca gb cb : Nat} {A : Option Addr} {c : Nat} {B : Option Addr} {d : Nat} (h : LentO w base o ga ca gb cb) (h' : OpAt w o A c B d) (hb : OpB o) (hn : o.news.length ≤ 1000000) (hm : o.puts.length ≤ 1000000) :
    Calls Tryz.prog 16 #[.agg (opC o (some ⟨ga, 0, none⟩) ca (some ⟨gb, 0, none⟩) cb).toArray, .agg (opC o A c B d).toArray] w fun e w' => e = .returned (.bool true) ∧ Below w.heap.size w w' := by
  have H := Lib.hid h
  have H' := Lib.hid h'
  have HB := Lib.hid hb
  clear h h' hb
  go_enter Tryz.func16, Tryz.ntmps16
  go_upto_region 1 with (first
    | ((with_reducible show wpList _ _ _ (_ :: _) _ _); refine wpl_box rfl 35 (.tmp 0) (by rfl) (opC o (some ⟨ga, 0, none⟩) ca (some ⟨gb, 0, none⟩) cb).toArray (by rfl) ?_; intro w1 hk hg hz; have K1 := Lib.hid hk; have L1 := Lib.hid (bl_n (Below.refl _ w) hg); clear hk hg hz; simp only [Act.put, List.setIfInBounds_toArray, List.set_cons_zero, List.set_cons_succ])
    | ((with_reducible show wpList _ _ _ (_ :: _) _ _); refine wpl_box rfl 35 (.tmp 1) (by rfl) (opC o A c B d).toArray (by rfl) ?_; intro w2 hk hg hz; have K2 := Lib.hid hk; have L2 := Lib.hid (bl_n (Below.refl _ w1) hg); clear hk hg hz; simp only [Act.put, List.setIfInBounds_toArray, List.set_cons_zero, List.set_cons_succ]))
  have LL := Lib.hid (below_chain L1.out L2.out)
  have KB := Lib.hid (K1.out.below L2.out K1.out.lt)
  have RA := Lib.hid (show w2.rangeAt w.heap.size 0 (opC o (some ⟨ga, 0, none⟩) ca (some ⟨gb, 0, none⟩) cb) by have := KB.out.range; rwa [toArr] at this)
  have RB := Lib.hid (show w2.rangeAt w1.heap.size 0 (opC o A c B d) by have := K2.out.range; rwa [toArr] at this)
  have H2 := Lib.hid (H.out.below LL.out)
  have H2' := Lib.hid (H'.out.below LL.out)
  go_wp2_with (first
    | ((with_reducible show wpList _ _ _ (_ :: _) _ _); refine wpList_load_mid rfl 35 (.tmp 2) (by rfl) w.heap.size 0 (by rfl) (opC o (some ⟨ga, 0, none⟩) ca (some ⟨gb, 0, none⟩) cb) _ RA.out Tryz.underlying35 rfl (opC_info _ _ _ _ _) ?_; simp only [Act.put, List.setIfInBounds_toArray, List.set_cons_zero, List.set_cons_succ])
    | ((with_reducible show wpList _ _ _ (_ :: _) _ _); refine wpList_load_mid rfl 35 (.tmp 3) (by rfl) w1.heap.size 0 (by rfl) (opC o A c B d) _ RB.out Tryz.underlying35 rfl (opC_info _ _ _ _ _) ?_; simp only [Act.put, List.setIfInBounds_toArray, List.set_cons_zero, List.set_cons_succ])
    | (go_at_call 58; refine (sameOp_any H2.out.at_ H2'.out HB.out hn hm).mono ?_; rintro e w3 ⟨rfl, hb⟩; have L3 := Lib.hid hb; have a4 := (KB.out.below hb KB.out.lt).cell (i := 4) (v := .slice (some ⟨ga, 0, none⟩) o.news.length ca) rfl; have b4 := (K2.out.below hb K2.out.lt).cell (i := 4) (v := .slice A o.news.length c) rfl; have H3 := Lib.hid (H2.out.below hb); have H3' := Lib.hid (H2'.out.below hb); clear hb)
    | (go_at_call 59; refine (frKept_any H3'.out.news rfl H3.out.fr H3.out.frc HB.out.2.2.2.2.1 hn).mono ?_; rintro e w4 ⟨rfl, hb⟩; have L4 := Lib.hid (below_chain L3.out hb); have a5 := (KB.out.below L4.out KB.out.lt).cell (i := 5) (v := .slice (some ⟨gb, 0, none⟩) o.puts.length cb) rfl; have b5 := (K2.out.below L4.out K2.out.lt).cell (i := 5) (v := .slice B o.puts.length d) rfl; have H4 := Lib.hid (H3.out.below hb); have H4' := Lib.hid (H3'.out.below hb); clear hb)
    | (go_at_call 60; refine (puKept_any H4'.out.puts rfl H4.out.pu H4.out.puc HB.out.2.2.2.2.2.1 hm).mono ?_; rintro e w5 ⟨rfl, hb⟩; have L5 := Lib.hid (below_chain L4.out hb); clear hb))
  go_ret
  exact ⟨rfl, below_chain LL.out L5.out⟩
set_option maxRecDepth 100000 in
set_option maxHeartbeats 1000000 in
theorem overOp_any {w : World} {base : Nat} {o : OpV} {ga ca gb cb : Nat} (h : LentO w base o ga ca gb cb) (hn : o.news.length ≤ 1000000) (hm : o.puts.length ≤ 1000000) :
    Calls Tryz.prog 17 #[.agg (opC o (some ⟨ga, 0, none⟩) ca (some ⟨gb, 0, none⟩) cb).toArray] w fun e w' => e = .returned (.tuple #[]) ∧ Tch [ga, gb] w w' := by
  have H := Lib.hid h
  clear h
  go_enter Tryz.func17, Tryz.ntmps17
  go_upto_region 1 with (first
    | ((with_reducible show wpList _ _ _ (_ :: _) _ _); refine wpl_box rfl 35 (.tmp 0) (by rfl) (opC o (some ⟨ga, 0, none⟩) ca (some ⟨gb, 0, none⟩) cb).toArray (by rfl) ?_; intro w1 hk hg hz; have K1 := Lib.hid hk; have L1 := Lib.hid (bl_n (Below.refl _ w) hg); clear hk hg hz; simp only [Act.put, List.setIfInBounds_toArray, List.set_cons_zero, List.set_cons_succ]))
  have H1 := Lib.hid (H.out.below L1.out)
  have a4 := K1.out.cell (i := 4) (v := .slice (some ⟨ga, 0, none⟩) o.news.length ca) rfl
  have hne1 : ga ≠ w.heap.size := fun e => own_blk H1.out.fr K1.out (by decide) (by rw [e]; rfl)
  have HNe := Lib.hid hne1
  clear hne1
  go_wp2_with (first
    | (go_at_call 61; refine (frOver_any H1.out.fr (by rw [List.length_append, frMs_len]) H1.out.frc hn).mono ?_; rintro e w2 ⟨rfl, hT⟩; have T2 := Lib.hid hT; have K2 := Lib.hid (K1.out.tch hT (by have := HNe.out; simp; omega)); have a5 := K2.out.cell (i := 5) (v := .slice (some ⟨gb, 0, none⟩) o.puts.length cb) rfl; have P2 := Lib.hid (own_tchN H1.out.pu hT (fun b hb hm => by simp at hm; subst hm; exact own_apart H1.out.fr H1.out.pu (by decide) _ hb rfl)); clear hT)
    | (go_at_call 62; refine (puOver_any P2.out (by rw [List.length_append, puMs_len]) H1.out.puc hm).mono ?_; rintro e w3 ⟨rfl, hT⟩; have T3 := Lib.hid hT; clear hT))
  go_end0
  exact ⟨rfl, (Tch.below L1.out).trans ((T2.out.mono (fun k hk => by simp at hk ⊢; exact .inl hk)).trans (T3.out.mono (fun k hk => by simp at hk ⊢; exact .inr hk)))⟩
end Go.Proofs.YtgjjdfhoakailaaGreat
namespace Go.Proofs.YtgjjdfhoakailaaGreat
open Go.RowKit Go.Maps Go.Sort Go.Shelf
set_option linter.unusedVariables false
set_option linter.unusedSimpArgs false

def stTys : List TypeId := [61, 103, 123, 121]
/-- Blocks of other types than a state's may turn. -/
theorem StO.other {w0 w w' : World} {si xi bx mi bs n : Nat} {E : ExM} {f : MpF} {M : SnM} {T : List Nat} (h : StO w0 w si xi bx mi bs n E f M) (hT : Tch T w w') (hlo : ∀ k ∈ T, w0.heap.size ≤ k) (hty : ∀ k ∈ T, ∃ t cs, Blk w k t cs ∧ t ∉ stTys) : StO w0 w' si xi bx mi bs n E f M := by
  have g : ∀ (k : Nat) (t : TypeId) (cs : Array Value), Blk w k t cs → t ∈ stTys → k ∉ T := fun k t cs hb ht hk => by
    obtain ⟨t', cs', hb', ht'⟩ := hty k hk
    by_cases e : t = t'
    · exact ht' (e ▸ ht)
    · exact blk_ne_ty hb hb' e rfl
  refine ⟨h.st.tch hT (g _ _ _ h.st.blk (by simp [stTys])) (g _ _ _ h.st.idx.blk (by simp [stTys])) (fun hk => ?_) (g _ _ _ h.st.maps.blk (by simp [stTys])) (fun hk => ?_) (fun p hp => g _ _ _ (h.st.maps.each p hp) (by simp [stTys])), h.inv, h.low.trans (hT.toBelow h.low.size hlo), h.lo⟩
  · obtain ⟨t, cs, hb, _⟩ := hty bx hk
    exact blk_ne_map h.st.idx.map hb rfl
  · obtain ⟨t, cs, hb, _⟩ := hty bs hk
    exact blk_ne_map h.st.maps.map hb rfl
theorem StO.noBlk {w0 w : World} {si xi bx mi bs n : Nat} {E : ExM} {f : MpF} {M : SnM} (h : StO w0 w si xi bx mi bs n E f M) {g : Nat} {t : TypeId} {cs : Array Value} (hb : Blk w g t cs) (ht : t ≠ 123) : g ∉ [bx, mi, bs] := by
  intro hm
  simp at hm
  rcases hm with rfl | rfl | rfl
  · exact blk_ne_map h.st.idx.map hb rfl
  · exact blk_ne_ty hb h.st.maps.blk ht rfl
  · exact blk_ne_map h.st.maps.map hb rfl
theorem own_blkT {w : World} {base n sz : Nat} {e : TypeId} {v : Value} {xs : List Value} (h : w.ownsRow base e sz v n xs) {g : Nat} (hg : v.ownBlock = some g) : ∃ cs, Blk w g e cs := own_obj h hg
theorem RfIs.tch {w w' : World} {B xs n m c : Nat} {A : Option Addr} {l : List It} {T : List Nat} (h : RfIs w B xs n m c A l) (hT : Tch T w w') (h1 : xs ∉ T) (h2 : ∀ b, (Value.slice A m c).ownBlock = some b → b ∉ T) : RfIs w' B xs n m c A l := ⟨h.blk.tch hT h1, own_tchN h.own hT h2, h.len, h.high⟩
theorem LentO.tch {w w' : World} {base : Nat} {o : OpV} {ga ca gb cb : Nat} {T : List Nat} (h : LentO w base o ga ca gb cb) (hT : Tch T w w') (h1 : ga ∉ T) (h2 : gb ∉ T) : LentO w' base o ga ca gb cb :=
  ⟨own_tchN h.fr hT (fun b hb => by injection hb with hb; subst hb; exact h1), own_tchN h.pu hT (fun b hb => by injection hb with hb; subst hb; exact h2), h.frc, h.puc⟩
theorem LentO.blks {w : World} {base : Nat} {o : OpV} {ga ca gb cb : Nat} (h : LentO w base o ga ca gb cb) : (∃ cs, Blk w ga 130 cs) ∧ ∃ cs, Blk w gb 132 cs := ⟨own_blkT h.fr rfl, own_blkT h.pu rfl⟩
/-- ref26's Do, of whatever op. -/
theorem rDo_any {w : World} {B xs n m c : Nat} {A : Option Addr} {l : List It} (h : RfIs w B xs n m c A l) (hmm : m ≤ 1000000) (hB : B ≤ w.heap.size) (hu : ∀ x ∈ l, 0 ≤ x.unit ∧ x.unit ≤ 511) {o : OpV} {A1 : Option Addr} {c1 : Nat} {B1 : Option Addr} {d1 : Nat} (ho : OpAt w o A1 c1 B1 d1) (hn : o.news.length ≤ 100000000) (hm : o.puts.length ≤ 100000000) :
    Calls Tryz.prog 15 #[.pointer (some ⟨xs, 0, none⟩), .agg (opC o A1 c1 B1 d1).toArray] w (RDoPost B xs n l o w) := by
  cases hr : rightB o with
  | false => exact rDo_no h ho hn hm hr
  | true =>
    rcases (right_kind hr).1 with hk | hk | hk | hk | hk
    · exact rDo_1 h hmm hB ho hn hm hr hk
    · exact rDo_2 h hmm hB hu ho hn hm hr hk
    · exact rDo_3 h hmm hB ho hn hm hr hk
    · exact rDo_4 h hmm hB ho hn hm hr hk
    · exact rDo_5 h hmm hB ho hn hm hr hk
theorem st_units {n : Nat} (hn : n ≤ 512) {E : ExM} {f : MpF} {M : SnM} {l : List It} (hI : Inv n E f M) (h : l.Perm (stItems n E f M)) : ∀ x ∈ l, 0 ≤ x.unit ∧ x.unit ≤ 511 := by
  intro x hx
  rcases (st_mem hI.uniqM hI.ids).1 (h.mem_iff.1 hx) with ⟨p, _, rfl⟩ | ⟨u, hu, _, rfl⟩ | ⟨q, _, u, hu, _, rfl⟩ | ⟨q, _, rfl⟩
  · exact ⟨Int.le_refl _, show (0 : Int) ≤ 511 by omega⟩
  · exact ⟨show (0 : Int) ≤ (u : Int) by omega, show (u : Int) ≤ 511 by omega⟩
  · exact ⟨show (0 : Int) ≤ (u : Int) by omega, show (u : Int) ≤ 511 by omega⟩
  · exact ⟨Int.le_refl _, show (0 : Int) ≤ 511 by omega⟩
/-- The two states, side by side. -/
structure Two (w0 w : World) (si xi bx mi bs xs n m c : Nat) (A : Option Addr) (l : List It) (E : ExM) (f : MpF) (M : SnM) : Prop where
  st : StO w0 w si xi bx mi bs n E f M
  rf : RfIs w w0.heap.size xs n m c A l
  perm : l.Perm (stItems n E f M)
  lo : w0.heap.size ≤ xs
section
variable {w0 w w' : World} {si xi bx mi bs xs n m c : Nat} {A : Option Addr} {l : List It} {E : ExM} {f : MpF} {M : SnM}
theorem Two.below (h : Two w0 w si xi bx mi bs xs n m c A l E f M) (hb : Below w.heap.size w w') : Two w0 w' si xi bx mi bs xs n m c A l E f M := ⟨h.st.below hb, h.rf.below hb, h.perm, h.lo⟩
theorem Two.few (h : Two w0 w si xi bx mi bs xs n m c A l E f M) (hE : E.length ≤ 1000) : m ≤ 1000000 := by
  have h1 := stItems_len h.rf.high h.st.inv
  have h2 := h.perm.length_eq
  rw [h.rf.len] at h2
  omega
/-- Do of the state, its op lent. -/
theorem Two.do1 (h : Two w0 w si xi bx mi bs xs n m c A l E f M) (hE : E.length ≤ 1000) {base : Nat} {o : OpV} {ga ca gb cb : Nat} (hL : LentO w base o ga ca gb cb) (hn : o.news.length ≤ 60) (hm : o.puts.length ≤ 60) (hk : 0 ≤ o.kind ∧ o.kind < 256) :
    Calls Tryz.prog 14 #[.pointer (some ⟨si, 0, none⟩), .agg (opC o (some ⟨ga, 0, none⟩) ca (some ⟨gb, 0, none⟩) cb).toArray] w fun e w' =>
      ∃ r E' f' M', e = .returned (.int .i64 r) ∧ DoR n E f M o r E' f' M' ∧ E'.length ≤ E.length + 18 ∧ StO w0 w' si xi bx mi bs n E' f' M' ∧ RfIs w' w0.heap.size xs n m c A l ∧ LentO w' base o ga ca gb cb ∧ Tch [bx, mi, bs] w w' := by
  obtain ⟨⟨cf, hf⟩, ⟨cp, hp⟩⟩ := hL.blks
  have n1 := h.st.noBlk hf (by decide)
  have n2 := h.st.noBlk hp (by decide)
  refine (do_t h.st o (some ⟨ga, 0, none⟩) ca (some ⟨gb, 0, none⟩) cb hL.at_ (fun _ p hp => by injection hp with hp; subst hp; exact n1) (fun _ p hp => by injection hp with hp; subst hp; exact n2) (by omega) (by omega) (by omega) hk).mono ?_
  rintro e w' ⟨r, E', f', M', rfl, hd, hl, hs, hT⟩
  exact ⟨r, E', f', M', rfl, hd, hl, hs, h.rf.tch hT (h.st.noBlk h.rf.blk (by decide)) (fun b hb => by
    obtain ⟨cs, hcs⟩ := own_blkT h.rf.own hb
    exact h.st.noBlk hcs (by decide)), hL.tch hT n1 n2, hT⟩
/-- Do of ref26's. -/
theorem two_do2 {E' : ExM} {f' : MpF} {M' : SnM} {o : OpV} {r : Int} (hI : Inv n E f M) (hR : RfIs w w0.heap.size xs n m c A l) (hp : l.Perm (stItems n E f M)) (hlo : w0.heap.size ≤ xs) (hmm : m ≤ 1000000) (hd : DoR n E f M o r E' f' M') (hs' : StO w0 w si xi bx mi bs n E' f' M')
    {base : Nat} {ga ca gb cb : Nat} (hL : LentO w base o ga ca gb cb) {A1 : Option Addr} {c1 : Nat} {B1 : Option Addr} {d1 : Nat} (ho : OpAt w o A1 c1 B1 d1) (hn : o.news.length ≤ 60) (hm : o.puts.length ≤ 60) :
    Calls Tryz.prog 15 #[.pointer (some ⟨xs, 0, none⟩), .agg (opC o A1 c1 B1 d1).toArray] w fun e w' =>
      ∃ m' c' A' l', e = .returned (.int .i64 r) ∧ Two w0 w' si xi bx mi bs xs n m' c' A' l' E' f' M' ∧ LentO w' base o ga ca gb cb ∧ Tch [xs] w w' := by
  refine (rDo_any hR hmm hs'.low.size (st_units hR.high hI hp) ho (by omega) (by omega)).mono ?_
  rintro e w' ⟨m', c', A', rfl, hR', hT⟩
  have hdp := do_perm hR.high hI hp hd
  obtain ⟨⟨cf, hf⟩, ⟨cp, hp2⟩⟩ := hL.blks
  refine ⟨m', c', A', _, by rw [hdp.1], ⟨hs'.other hT (fun k hk => by simp at hk; omega) (fun k hk => by simp at hk; subst hk; exact ⟨_, _, hR.blk, by decide⟩), hR', hdp.2, hlo⟩, hL.tch hT (fun hk => by simp at hk; exact blk_ne_ty hf hR.blk (by decide) hk) (fun hk => by simp at hk; exact blk_ne_ty hp2 hR.blk (by decide) hk), hT⟩
/-- The lent op written over. -/
theorem Two.over (h : Two w0 w si xi bx mi bs xs n m c A l E f M) {base : Nat} {o : OpV} {ga ca gb cb : Nat} (hL : LentO w base o ga ca gb cb) (hb : w0.heap.size ≤ base) (hT : Tch [ga, gb] w w') : Two w0 w' si xi bx mi bs xs n m c A l E f M := by
  obtain ⟨⟨cf, hf⟩, ⟨cp, hp⟩⟩ := hL.blks
  have h1 := hL.ga_at
  have h2 := hL.gb_at
  refine ⟨h.st.other hT (fun k hk => by simp at hk; omega) (fun k hk => by
    simp at hk
    rcases hk with rfl | rfl
    · exact ⟨_, _, hf, by decide⟩
    · exact ⟨_, _, hp, by decide⟩), h.rf.tch hT (fun hk => ?_) (fun b hb hk => ?_), h.perm, h.lo⟩
  · simp at hk
    rcases hk with e | e
    · exact blk_ne_ty h.rf.blk hf (by decide) e
    · exact blk_ne_ty h.rf.blk hp (by decide) e
  · obtain ⟨cs, hcs⟩ := own_blkT h.rf.own hb
    simp at hk
    rcases hk with e | e
    · exact blk_ne_ty hcs hf (by decide) e
    · exact blk_ne_ty hcs hp (by decide) e
end
end Go.Proofs.YtgjjdfhoakailaaGreat
namespace Go.Proofs.YtgjjdfhoakailaaGreat
open Go.RowKit Go.Maps Go.Sort Go.Shelf
set_option linter.unusedVariables false
set_option linter.unusedSimpArgs false

theorem st_nil (n : Nat) : ([] : List It).Perm (stItems n [] zF []) := by
  have e : stItems n [] zF [] = [] := List.eq_nil_iff_forall_not_mem.2 (fun x hx => by
    rcases (st_mem (Inv.new n).uniqM (Inv.new n).ids).1 hx with ⟨p, hp, _⟩ | ⟨u, _, hm, _⟩ | ⟨q, hq, _⟩ | ⟨q, hq, _⟩
    · cases hp
    · exact hm rfl
    · cases hq
    · cases hq)
  rw [e]
theorem RfIs.lower {w : World} {B B' xs n m c : Nat} {A : Option Addr} {l : List It} (h : RfIs w B xs n m c A l) (hb : B' ≤ B) : RfIs w B' xs n m c A l := ⟨h.blk, own_loR h.own hb, h.len, h.high⟩
theorem rOf_ok (w : World) (u : Nat) (hu : 1 ≤ u ∧ u ≤ 512) : Calls Tryz.prog 12 #[.int .i64 (u : Int), .slice none 0 0] w fun e w' =>
    ∃ xs A c, e = .returned (.tuple #[.pointer (some ⟨xs, 0, none⟩), .int .i64 0]) ∧ RfIs w' w.heap.size xs u 0 c A [] ∧ w.heap.size ≤ xs ∧ Below w.heap.size w w' := by
  refine (rOf_nil w u).mono ?_
  rintro e w' (⟨h, _⟩ | ⟨_, xs, A, c, he, hR, hx, hb⟩)
  · omega
  · refine ⟨xs, A, c, he, ?_, hx, hb⟩
    have e1 : ((u : Int)).toNat = u := by omega
    rw [e1] at hR
    exact hR
theorem rOf_bad (w : World) (u : Int) (hu : u < 1 ∨ 512 < u) : Calls Tryz.prog 12 #[.int .i64 u, .slice none 0 0] w fun e w' => e = .returned (.tuple #[.pointer none, .int .i64 2]) ∧ Below w.heap.size w w' := by
  refine (rOf_nil w u).mono ?_
  rintro e w' (⟨_, he, hb⟩ | ⟨h, _⟩)
  · exact ⟨he, hb⟩
  · omega
def DsI (w : World) (si xi bx mi bs xs u n : Nat) (k : Nat) (iv : Value) (wr : World) : Prop :=
  ∃ (i m c : Nat) (A : Option Addr) (l : List It) (E : ExM) (f : MpF) (M : SnM), iv = .int .i64 (i : Int) ∧ i ≤ n ∧ i + k ≤ n ∧ n ≤ i + k ∧ Two w wr si xi bx mi bs xs u m c A l E f M ∧ E.length ≤ 18 * i
set_option maxRecDepth 100000 in
set_option maxHeartbeats 4000000 in
theorem does_law {w : World} {A : Option Addr} {n c : Nat} {L : List OpE} (units : Int) (h : OpsAt w A n c L) :
    Calls Tryz.prog 3 #[.int .i64 units, .slice A n c] w fun e w' => e = .returned (.bool true) ∧ Below w.heap.size w w' := by
  have H := Lib.hid h
  have HL := Lib.hid h.2.1
  have hn0 := h.2.2.2
  clear h
  obtain ⟨lb, hlb⟩ : ∃ b, b = lightB L := ⟨_, rfl⟩
  have HLB := Lib.hid hlb
  clear hlb
  cases lb
  case false =>
    go_enter Tryz.func3, Tryz.ntmps3
    go_wp2_with (first
      | (go_at_call 9; refine (awake_any w).mono ?_; rintro e w1 ⟨rfl, hb⟩; have L1 := Lib.hid hb; clear hb)
      | (go_at_call 10; refine (light_any (H.out.below L1.out)).mono ?_; rintro e w2 ⟨rfl, hb⟩; rewrite [← HLB.out]; have L2 := Lib.hid (below_chain L1.out hb); clear hb))
    go_ret
    exact ⟨rfl, L2.out⟩
  case true =>
    have HB := Lib.hid (show L.all lightE = true ∧ L.length ≤ 40 by have h := HLB.out.symm; unfold lightB at h; rw [Bool.and_eq_true] at h; exact ⟨h.1, of_decide_eq_true h.2⟩)
    have hn : n ≤ 40 := by have h1 := HL.out; have h2 := HB.out.2; omega
    by_cases hU : 1 ≤ units ∧ units ≤ 512
    · obtain ⟨u, hu⟩ : ∃ u : Nat, units = (u : Int) := ⟨units.toNat, by omega⟩
      subst hu
      have HU := Lib.hid (show 1 ≤ u ∧ u ≤ 512 by omega)
      clear hU
      go_enter Tryz.func3, Tryz.ntmps3
      go_upto_region 10 with
        (first
          | (go_at_call 9; refine (awake_any w).mono ?_; rintro e w1 ⟨rfl, hb⟩; have L1 := Lib.hid hb; clear hb)
          | (go_at_call 10; refine (light_any (H.out.below L1.out)).mono ?_; rintro e w2 ⟨rfl, hb⟩; rewrite [← HLB.out]; have L2 := Lib.hid (below_chain L1.out hb); clear hb)
          | (go_at_call 11; refine (st_new u HU.out _).mono ?_; rintro e w3 ⟨si, xi, bx, mi, bs, rfl, h1, hb, l1, l2, l3, l4, l5⟩; have ST3 := Lib.hid (show StO w w3 si xi bx mi bs u [] zF [] from ⟨h1, Inv.new u, below_chain L2.out hb, Nat.le_trans L2.out.size l1, Nat.le_trans L2.out.size l2, Nat.le_trans L2.out.size l3, Nat.le_trans L2.out.size l4, Nat.le_trans L2.out.size l5⟩); clear h1 hb l1 l2 l3 l4 l5)
          | (go_at_call 12; refine (rOf_ok _ u HU.out).mono ?_; rintro e w4 ⟨xs, A4, c4, rfl, hR, hx, hb⟩; have TW4 := Lib.hid (show Two w w4 si xi bx mi bs xs u 0 c4 A4 [] [] zF [] from ⟨ST3.out.below hb, hR.lower ST3.out.low.size, st_nil u, Nat.le_trans ST3.out.low.size hx⟩); clear hR hx hb))
      clear L1 L2 ST3
      go_loopg [8] n (fun k iv wr => DsI w si xi bx mi bs xs u n k iv wr)
      case atStart => exact ⟨0, 0, c4, A4, [], [], zF, [], rfl, by omega, by omega, by omega, TW4.out, by simp⟩
      case round =>
        obtain ⟨i, m, c5, A5, l, E, f, M, rfl, i1, i2, i3, hTw, hel⟩ := hrel
        have TW := Lib.hid hTw
        have HE := Lib.hid (show E.length ≤ 18 * i ∧ E.length ≤ 800 by omega)
        clear hTw hel TW4
        by_cases hi : i < n
        · have hiI : (i : Int) < (n : Int) := by omega
          have hil : i < L.length := by rw [HL.out]; exact hi
          obtain ⟨b, off, hA, hr0⟩ := src_part opEC_len H.out.1 HL.out hil
          have HX := Lib.hid (H.out.2.2.1 _ (List.getElem_mem hil))
          have HX60 := Lib.hid (show lightE L[i] = true from List.all_eq_true.1 HB.out.1 _ (List.getElem_mem hil))
          generalize L[i] = x at hr0 HX HX60
          have HXl := Lib.hid (show x.o.news.length ≤ 60 ∧ x.o.puts.length ≤ 60 by have h := of_decide_eq_true HX60.out; omega)
          subst hA
          have HR := Lib.hid (show ∀ W, Below w.heap.size w W → W.rangeAt b (off + i * 6) (opEC x) from fun W hW => blk_rng hr0 hW (by rw [opEC_len]; omega))
          clear hr0 HX60
          have Rg := Lib.hid (HR.out _ TW.out.st.low)
          go_upto_region 13 with (first
            | ((with_reducible show wpList _ _ _ (_ :: _) _ _); refine wpl_sidx rfl 22 (.tmp 37) (.tmp 38) (by rfl) Tryz.underlying22 Tryz.sizeOf35 b off n c i (by rfl) (by rfl) hi ?_; simp only [Act.put, List.setIfInBounds_toArray, List.set_cons_zero, List.set_cons_succ])
            | ((with_reducible show wpList _ _ _ (_ :: _) _ _); refine wpList_load_mid rfl 35 (.tmp 39) (by rfl) b (off + i * 6) (by rfl) (opEC x) _ Rg.out Tryz.underlying35 rfl (opEC_info' x) ?_; simp only [Act.put, List.setIfInBounds_toArray, List.set_cons_zero, List.set_cons_succ])
            | (go_at_call 13; refine (lentOp_any (HX.out.1.below TW.out.st.low) (by have := HXl.out; omega) (by have := HXl.out; omega)).mono ?_; rintro e w5 ⟨ga, ca, gb, cb, rfl, hL, hb⟩; have LO5 := Lib.hid hL; have TW5 := Lib.hid (TW.out.below hb); clear hL hb)
            | ((with_reducible show wpList _ _ _ (_ :: _) _ _); refine wpl_alloc rfl 35 (by rfl) Tryz.zeroValue35 6 (by rfl) ?_; intro wa cs hk hc hg hz; have K := Lib.hid hk; have C := Lib.hid hc; have G := Lib.hid (bl_n (Below.refl _ w5) hg); clear hk hc hg hz; simp only [Act.put, List.setIfInBounds_toArray, List.set_cons_zero, List.set_cons_succ])
            | ((with_reducible show wpList _ _ _ (_ :: _) _ _); refine wpl_over rfl 35 (.tmp 9) (.tmp 41) (by rfl) w5.heap.size (opC x.o (some ⟨ga, 0, none⟩) ca (some ⟨gb, 0, none⟩) cb) (by rfl) (by rfl) _ cs K.out (opC_info _ _ _ _ _) (by rw [C.out]; rfl) (opC_one _ _ _ _ _) ?_; intro wb hk hg hz; have KI := Lib.hid hk; have Lb := Lib.hid (bl_g G.out hg (Nat.le_refl _)); clear hk hg hz; simp only [Act.put, List.setIfInBounds_toArray, List.set_cons_zero, List.set_cons_succ]))
          have TW7 := Lib.hid (TW5.out.below Lb.out)
          have LO7 := Lib.hid (LO5.out.below Lb.out)
          have HLow := Lib.hid (show w.heap.size ≤ wr.heap.size from TW.out.st.low.size)
          generalize w5.heap.size = ib at KI ⊢
          have RI := Lib.hid (show wb.rangeAt ib 0 (opC x.o (some ⟨ga, 0, none⟩) ca (some ⟨gb, 0, none⟩) cb) by have := KI.out.range; rwa [toArr] at this)
          have hfew := TW.out.few (by have := HE.out; omega)
          have HFew := Lib.hid hfew
          clear K C G Rg hfew TW5 LO5
          refine wp_region_qs (fun _ w' => w'.rangeAt ib 0 (opC x.o (some ⟨ga, 0, none⟩) ca (some ⟨gb, 0, none⟩) cb) ∧ w'.rangeAt b (off + i * 6) (opEC x)) [(0, some 2), (1, some 2), (3, some 2), (4, some 3), (5, some 3), (6, some 3), (7, some 2), (2, none), (8, none), (9, some 3), (10, some 2), (11, some 2), (12, some 3), (13, some 3), (14, some 3), (15, some 2), (16, none), (17, some 3), (18, some 3)] (by kernel_rfl) (by kernel_rfl) (by kernel_rfl) (by kernel_rfl) (by kernel_rfl) (fun _ _ _ _ _ h => h) ⟨RI.out, HR.out _ TW7.out.st.low.drew⟩ ?_
          simp only [List.map_cons, List.map_nil, List.getD_cons_succ, List.getD_cons_zero]
          (repeat (first | ((first | (refine qs_row (by rfl) 35 (.tmp 9) (by rfl) ib 0 (by rfl) (opC x.o (some ⟨ga, 0, none⟩) ca (some ⟨gb, 0, none⟩) cb) _ (fun j w' _ h2 h => h.1) Tryz.underlying35 rfl (opC_info _ _ _ _ _) ?_) | (refine qs_row (by rfl) 35 (.tmp 48) (by rfl) b (off + i * 6) (by rfl) (opEC x) _ (fun j w' _ h2 h => h.2) Tryz.underlying35 rfl (opEC_info' x) ?_) | (refine qs_row (by rfl) 35 (.tmp 56) (by rfl) b (off + i * 6) (by rfl) (opEC x) _ (fun j w' _ h2 h => h.2) Tryz.underlying35 rfl (opEC_info' x) ?_)); simp only [Act.put, List.setIfInBounds_toArray, List.set_cons_zero, List.set_cons_succ]) | (refine qs_now (v := ?_) (by rfl) ?_ ?_; rotate_left 1; (· (intro w' hS; go_simp; (try (simp only [↓IntWalk.iteOmega]; go_simp)); (try simp (disch := omega) only [IntWalk.i64_in]); try with_reducible rfl)); simp only [Act.put, List.setIfInBounds_toArray, List.set_cons_zero, List.set_cons_succ]) | (refine qs_run (v := ?_) (by rfl) ?_ ?_; rotate_left 1; (· (intro j w' hS; go_simp; (try (simp only [↓IntWalk.iteOmega]; go_simp)); (try simp (disch := omega) only [IntWalk.i64_in]); try with_reducible rfl)); simp only [Act.put, List.setIfInBounds_toArray, List.set_cons_zero, List.set_cons_succ]) | (refine qs_mid (v := ?_) (by rfl) ?_ ?_; rotate_left 1; (· (intro j w' hj1 hj2 hS; go_simp; (try (simp only [↓IntWalk.iteOmega]; go_simp)); (try simp (disch := omega) only [IntWalk.i64_in]); try with_reducible rfl)); simp only [Act.put, List.setIfInBounds_toArray, List.set_cons_zero, List.set_cons_succ]) | (refine qs_skip (by rfl) ?_; simp only [Act.put, List.setIfInBounds_toArray, List.set_cons_zero, List.set_cons_succ])))
          refine qs_act ?_
          go_wp2_with (go_at_call 14; refine ((TW7.out.below (Below.refl _ wb).drew).do1 (by have := HE.out; omega) (LO7.out.below (Below.refl _ wb).drew) HXl.out.1 HXl.out.2 HX.out.2.1).mono ?_; rintro e w8 ⟨r, E', f', M', rfl, hd, hl, hs, hR, hL, hT⟩; have hrr : (r != r) = false := (by simp); have HD := Lib.hid hd; have HE8 := Lib.hid (show E'.length ≤ 18 * (i + 1) by have := HE.out; omega); have S8 := Lib.hid hs; have R8 := Lib.hid hR; have L8 := Lib.hid hL; have KI8 := Lib.hid (KI.out.drew.tch hT ((TW7.out.below (Below.refl _ wb).drew).st.noBlk KI.out.drew (by decide))); clear hd hl hs hR hL hT)
          refine ⟨⟨by have := KI8.out.range; rwa [toArr] at this, HR.out _ S8.out.low⟩, ?_⟩
          (repeat (first | ((first | (refine qs_row (by rfl) 35 (.tmp 9) (by rfl) ib 0 (by rfl) (opC x.o (some ⟨ga, 0, none⟩) ca (some ⟨gb, 0, none⟩) cb) _ (fun j w' _ h2 h => h.1) Tryz.underlying35 rfl (opC_info _ _ _ _ _) ?_) | (refine qs_row (by rfl) 35 (.tmp 48) (by rfl) b (off + i * 6) (by rfl) (opEC x) _ (fun j w' _ h2 h => h.2) Tryz.underlying35 rfl (opEC_info' x) ?_) | (refine qs_row (by rfl) 35 (.tmp 56) (by rfl) b (off + i * 6) (by rfl) (opEC x) _ (fun j w' _ h2 h => h.2) Tryz.underlying35 rfl (opEC_info' x) ?_)); simp only [Act.put, List.setIfInBounds_toArray, List.set_cons_zero, List.set_cons_succ]) | (refine qs_now (v := ?_) (by rfl) ?_ ?_; rotate_left 1; (· (intro w' hS; go_simp; (try (simp only [↓IntWalk.iteOmega]; go_simp)); (try simp (disch := omega) only [IntWalk.i64_in]); try with_reducible rfl)); simp only [Act.put, List.setIfInBounds_toArray, List.set_cons_zero, List.set_cons_succ]) | (refine qs_run (v := ?_) (by rfl) ?_ ?_; rotate_left 1; (· (intro j w' hS; go_simp; (try (simp only [↓IntWalk.iteOmega]; go_simp)); (try simp (disch := omega) only [IntWalk.i64_in]); try with_reducible rfl)); simp only [Act.put, List.setIfInBounds_toArray, List.set_cons_zero, List.set_cons_succ]) | (refine qs_mid (v := ?_) (by rfl) ?_ ?_; rotate_left 1; (· (intro j w' hj1 hj2 hS; go_simp; (try (simp only [↓IntWalk.iteOmega]; go_simp)); (try simp (disch := omega) only [IntWalk.i64_in]); try with_reducible rfl)); simp only [Act.put, List.setIfInBounds_toArray, List.set_cons_zero, List.set_cons_succ]) | (refine qs_skip (by rfl) ?_; simp only [Act.put, List.setIfInBounds_toArray, List.set_cons_zero, List.set_cons_succ])))
          refine qs_act ?_
          go_wp2_with (go_at_call 15; refine (two_do2 TW7.out.st.inv R8.out TW7.out.perm TW7.out.lo HFew.out HD.out S8.out L8.out (HX.out.1.below S8.out.low) HXl.out.1 HXl.out.2).mono ?_; rintro e w9 ⟨m', c', A', l', rfl, hTw, hL, hT⟩; have TW9 := Lib.hid hTw; have L9 := Lib.hid hL; have KI9 := Lib.hid (KI8.out.tch hT (fun hk => by simp at hk; exact blk_ne_ty KI8.out R8.out.blk (by decide) hk)); clear hTw hL hT)
          refine ⟨⟨by have := KI9.out.range; rwa [toArr] at this, HR.out _ TW9.out.st.low⟩, ?_⟩
          (repeat (first | ((first | (refine qs_row (by rfl) 35 (.tmp 9) (by rfl) ib 0 (by rfl) (opC x.o (some ⟨ga, 0, none⟩) ca (some ⟨gb, 0, none⟩) cb) _ (fun j w' _ h2 h => h.1) Tryz.underlying35 rfl (opC_info _ _ _ _ _) ?_) | (refine qs_row (by rfl) 35 (.tmp 48) (by rfl) b (off + i * 6) (by rfl) (opEC x) _ (fun j w' _ h2 h => h.2) Tryz.underlying35 rfl (opEC_info' x) ?_) | (refine qs_row (by rfl) 35 (.tmp 56) (by rfl) b (off + i * 6) (by rfl) (opEC x) _ (fun j w' _ h2 h => h.2) Tryz.underlying35 rfl (opEC_info' x) ?_)); simp only [Act.put, List.setIfInBounds_toArray, List.set_cons_zero, List.set_cons_succ]) | (refine qs_now (v := ?_) (by rfl) ?_ ?_; rotate_left 1; (· (intro w' hS; go_simp; (try (simp only [↓IntWalk.iteOmega]; go_simp)); (try simp (disch := omega) only [IntWalk.i64_in]); try with_reducible rfl)); simp only [Act.put, List.setIfInBounds_toArray, List.set_cons_zero, List.set_cons_succ]) | (refine qs_run (v := ?_) (by rfl) ?_ ?_; rotate_left 1; (· (intro j w' hS; go_simp; (try (simp only [↓IntWalk.iteOmega]; go_simp)); (try simp (disch := omega) only [IntWalk.i64_in]); try with_reducible rfl)); simp only [Act.put, List.setIfInBounds_toArray, List.set_cons_zero, List.set_cons_succ]) | (refine qs_mid (v := ?_) (by rfl) ?_ ?_; rotate_left 1; (· (intro j w' hj1 hj2 hS; go_simp; (try (simp only [↓IntWalk.iteOmega]; go_simp)); (try simp (disch := omega) only [IntWalk.i64_in]); try with_reducible rfl)); simp only [Act.put, List.setIfInBounds_toArray, List.set_cons_zero, List.set_cons_succ]) | (refine qs_skip (by rfl) ?_; simp only [Act.put, List.setIfInBounds_toArray, List.set_cons_zero, List.set_cons_succ])))
          refine qs_act ?_
          go_wp2_with (go_at_call 16; refine (keptOp_any L9.out (HX.out.1.below TW9.out.st.low) HX.out.2 (by have := HXl.out; omega) (by have := HXl.out; omega)).mono ?_; rintro e w10 ⟨rfl, hb⟩; have TW10 := Lib.hid (TW9.out.below hb); have L10 := Lib.hid (L9.out.below hb); have KI10 := Lib.hid (KI9.out.below hb KI9.out.lt); clear hb)
          refine ⟨⟨by have := KI10.out.range; rwa [toArr] at this, HR.out _ TW10.out.st.low⟩, ?_⟩
          (repeat (first | ((first | (refine qs_row (by rfl) 35 (.tmp 9) (by rfl) ib 0 (by rfl) (opC x.o (some ⟨ga, 0, none⟩) ca (some ⟨gb, 0, none⟩) cb) _ (fun j w' _ h2 h => h.1) Tryz.underlying35 rfl (opC_info _ _ _ _ _) ?_) | (refine qs_row (by rfl) 35 (.tmp 48) (by rfl) b (off + i * 6) (by rfl) (opEC x) _ (fun j w' _ h2 h => h.2) Tryz.underlying35 rfl (opEC_info' x) ?_) | (refine qs_row (by rfl) 35 (.tmp 56) (by rfl) b (off + i * 6) (by rfl) (opEC x) _ (fun j w' _ h2 h => h.2) Tryz.underlying35 rfl (opEC_info' x) ?_)); simp only [Act.put, List.setIfInBounds_toArray, List.set_cons_zero, List.set_cons_succ]) | (refine qs_now (v := ?_) (by rfl) ?_ ?_; rotate_left 1; (· (intro w' hS; go_simp; (try (simp only [↓IntWalk.iteOmega]; go_simp)); (try simp (disch := omega) only [IntWalk.i64_in]); try with_reducible rfl)); simp only [Act.put, List.setIfInBounds_toArray, List.set_cons_zero, List.set_cons_succ]) | (refine qs_run (v := ?_) (by rfl) ?_ ?_; rotate_left 1; (· (intro j w' hS; go_simp; (try (simp only [↓IntWalk.iteOmega]; go_simp)); (try simp (disch := omega) only [IntWalk.i64_in]); try with_reducible rfl)); simp only [Act.put, List.setIfInBounds_toArray, List.set_cons_zero, List.set_cons_succ]) | (refine qs_mid (v := ?_) (by rfl) ?_ ?_; rotate_left 1; (· (intro j w' hj1 hj2 hS; go_simp; (try (simp only [↓IntWalk.iteOmega]; go_simp)); (try simp (disch := omega) only [IntWalk.i64_in]); try with_reducible rfl)); simp only [Act.put, List.setIfInBounds_toArray, List.set_cons_zero, List.set_cons_succ]) | (refine qs_skip (by rfl) ?_; simp only [Act.put, List.setIfInBounds_toArray, List.set_cons_zero, List.set_cons_succ])))
          refine qs_nil ?_
          have RI10 := Lib.hid (show w10.rangeAt ib 0 (opC x.o (some ⟨ga, 0, none⟩) ca (some ⟨gb, 0, none⟩) cb) by have := KI10.out.range; rwa [toArr] at this)
          obtain ⟨I, hI⟩ : ∃ I, I = stItems u E' f' M' := ⟨_, rfl⟩
          have HI := Lib.hid hI
          have HIB := Lib.hid (show ∀ i ∈ I, ItB i by rw [hI]; exact stItems_B HU.out.2 TW10.out.st.inv)
          have HIl := Lib.hid (show I.length ≤ 100000 by rw [hI]; have h1 := stItems_len HU.out.2 TW10.out.st.inv; have h2 := HE8.out; omega)
          have HIs := Lib.hid (show SortedI I by rw [hI]; exact st_sorted TW10.out.st.inv.uniq TW10.out.st.inv.uniqM TW10.out.st.inv.ids)
          have HIk := Lib.hid (show ∀ x ∈ I, x.kind = 1 ∨ x.kind = 2 ∨ x.kind = 3 by rw [hI]; exact fun x hx => st_kinds TW10.out.st.inv.uniqM TW10.out.st.inv.ids hx)
          have HIp := Lib.hid (show l'.Perm I by rw [hI]; exact TW10.out.perm)
          have HIt := Lib.hid (show ∀ W, StIs W si xi bx mi bs u E' f' M' → Calls Tryz.prog 19 #[.pointer (some ⟨si, 0, none⟩)] W (MItPost I W) from fun W hW => by rw [hI]; exact st_items hW (by have := HE8.out; omega) TW10.out.st.inv.idsOk)
          have HCk := Lib.hid (show ∀ W, StIs W si xi bx mi bs u E' f' M' → Calls Tryz.prog 21 #[.pointer (some ⟨si, 0, none⟩)] W fun e w' => e = .returned (.int .i64 0) ∧ Below W.heap.size W w' from fun W hW => by
            have h1 := check_any hW (by have := HE8.out; omega) TW10.out.st.inv.idsOk (by rw [← hI]; exact HIB.out) (by rw [← hI]; have := HIl.out; omega)
            rw [inv_makes HU.out.2 TW10.out.st.inv, if_pos rfl] at h1
            exact h1)
          have HFew10 := Lib.hid (TW10.out.few (by have := HE8.out; omega))
          clear hI TW TW7 LO7 S8 R8 L8 KI8 TW9 L9 KI9 HD RI KI Lb HFew HE
          go_upto_region 16 with (first
            | ((with_reducible show wpList _ _ _ (_ :: _) _ _); refine wpList_load_mid rfl 35 (.tmp 9) (by rfl) ib 0 (by rfl) (opC x.o (some ⟨ga, 0, none⟩) ca (some ⟨gb, 0, none⟩) cb) _ RI10.out Tryz.underlying35 rfl (opC_info _ _ _ _ _) ?_; simp only [Act.put, List.setIfInBounds_toArray, List.set_cons_zero, List.set_cons_succ])
            | (go_at_call 17; refine (overOp_any L10.out (by have := HXl.out; omega) (by have := HXl.out; omega)).mono ?_; rintro e w11 ⟨rfl, hT⟩; have TW11 := Lib.hid (TW10.out.over L10.out HLow.out hT); clear hT))
          go_wp2_with (first
            | (go_at_call 19; refine (HIt.out _ TW11.out.st.st).mono ?_; rintro e w12 ⟨v12, rfl, ho, hb⟩; obtain ⟨A12, c12, rfl, _⟩ := own_slice ho; have O12 := Lib.hid ho; have TW12 := Lib.hid (TW11.out.below hb); clear ho hb)
            | (go_at_call 20; refine (rItems_any TW12.out.rf HFew10.out HIp.out HIs.out HIk.out).mono ?_; rintro e w13 ⟨v13, rfl, ho, hb⟩; obtain ⟨A13, c13, rfl, _⟩ := own_slice ho; have O13 := Lib.hid ho; have O12' := Lib.hid (own_belowR O12.out hb); have TW13 := Lib.hid (TW12.out.below hb); clear ho hb)
            | (go_at_call 18; refine (same_its (Src.of_own O12'.out) rfl (Src.of_own O13.out) rfl HIB.out HIB.out (by have := HIl.out; omega) (by have := HIl.out; omega)).mono ?_; rintro e w14 ⟨rfl, hb⟩; rewrite [decide_eq_true (show I = I from rfl)]; have TW14 := Lib.hid (TW13.out.below hb); clear hb)
            | (go_at_call 21; refine (HCk.out _ TW14.out.st.st).mono ?_; rintro e w15 ⟨rfl, hb⟩; have TW15 := Lib.hid (TW14.out.below hb); clear hb))
          go_roundg (gk - 1)
          case measure => omega
          case rel => exact ⟨i + 1, m', c', A', l', E', f', M', by congr 1, by omega, by omega, by omega, TW15.out, HE8.out⟩
        · have hiI : ¬ (i : Int) < (n : Int) := by omega
          go_wp2_with fail
          go_ret
          exact ⟨rfl, TW.out.st.low⟩
    · have HUb := Lib.hid (show units < 1 ∨ 512 < units by omega)
      clear hU
      go_enter Tryz.func3, Tryz.ntmps3
      go_upto_region 10 with
        (first
          | (go_at_call 9; refine (awake_any w).mono ?_; rintro e w1 ⟨rfl, hb⟩; have L1 := Lib.hid hb; clear hb)
          | (go_at_call 10; refine (light_any (H.out.below L1.out)).mono ?_; rintro e w2 ⟨rfl, hb⟩; rewrite [← HLB.out]; have L2 := Lib.hid (below_chain L1.out hb); clear hb)
          | (go_at_call 11; refine (st_none units HUb.out _).mono ?_; rintro e w3 ⟨rfl, rfl⟩)
          | (go_at_call 12; refine (rOf_bad _ units HUb.out).mono ?_; rintro e w4 ⟨rfl, hb⟩; have L4 := Lib.hid (below_chain L2.out hb); clear hb))
      go_loopg [8] 0 (fun k iv wr => iv = .int .i64 0 ∧ Below w.heap.size w wr)
      case atStart => exact ⟨rfl, L4.out⟩
      case round =>
        obtain ⟨rfl, hb⟩ := hrel
        have LB := Lib.hid hb
        clear hb
        by_cases h0 : 0 < n
        · have h0I : 0 < (n : Int) := by omega
          go_wp2_with fail
          go_ret
          exact ⟨rfl, LB.out⟩
        · have h0I : ¬ 0 < (n : Int) := by omega
          go_wp2_with fail
          go_ret
          exact ⟨rfl, LB.out⟩
end Go.Proofs.YtgjjdfhoakailaaGreat
