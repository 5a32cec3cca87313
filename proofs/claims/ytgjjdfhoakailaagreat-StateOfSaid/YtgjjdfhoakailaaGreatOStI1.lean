/-
  what this claim needs of: StI1 (written by cut.py).
-/
import Derived.Test.YtgjjdfhoakailaaGreatOStJ
namespace Go.Proofs.YtgjjdfhoakailaaGreat
open Go.RowKit Go.Maps Go.Sort Go.Shelf
set_option linter.unusedVariables false
set_option linter.unusedSimpArgs false

theorem im_litsOf (d : Nat) {i : It} (h : ItB i) : Tryz.prog.keyLits (d + 4) 56 (itC i) = some (litsIt i) := it_litsOf d h
theorem imC_info (i : It) : (Tryz.prog.info? 56).map (·.size) = some (itC i).length := itC_info i
def imM1 (k i : Int) : It := ⟨0, zKey, zPl, mkN k i, 0, zSl⟩
theorem imM1_B {k i : Int} (hk : 0 ≤ k ∧ k ≤ 1000000000) (hi : 0 ≤ i ∧ i ≤ 1000000000000) : ItB (imM1 k i) := ⟨by simp [imM1], zPl_B, mkN_B hk hi, i64B_zero, zSl_B⟩
theorem built_itz (m : Int) : Tryz.prog.built 56 [(3, .int .i64 m)] = some (itC ⟨0, zKey, zPl, m, 0, zSl⟩).toArray := by
  rw [built_it, fill_cons 37 [.int .i64 m] rfl rfl (by simp [itC_len]), put_snap]
  rfl
set_option maxRecDepth 100000 in
set_option maxHeartbeats 1000000 in
theorem markItem_any (k i : Int) (w : World) (hk : 0 ≤ k ∧ k ≤ 1000000000) (hi : 0 ≤ i ∧ i ≤ 1000000000000) :
    Calls Tryz.prog 75 #[.int .i64 k, .int .i64 i] w fun e w' => e = .returned (.agg (itC (imM1 k i)).toArray) ∧ Below w.heap.size w w' := by
  go_enter Tryz.func75, Tryz.ntmps75
  go_wp2_with (first
    | ((with_reducible show wpList _ _ _ (_ :: _) _ _); refine wpl_alloc rfl 56 (by rfl) Tryz.zeroValue56 73 zero_It_len ?_; intro w1 cs hk hc hg hz; have K1 := Lib.hid hk; have C1 := Lib.hid hc; have L1 := Lib.hid (bl_n (Below.refl _ w) hg); clear hk hc hg hz; simp only [Act.put, List.setIfInBounds_toArray, List.set_cons_zero, List.set_cons_succ])
    | (go_at_call 109; refine (mark_any k i _ hk hi).mono ?_; rintro ev w' ⟨rfl, rfl⟩)
    | ((with_reducible show wpList _ _ _ (_ :: _) _ _); refine wpl_mk rfl 56 #[(3, .tmp 7)] (by rfl) [(3, .int .i64 (1000003 * (k + 7) + i))] (by rfl) _ (built_itz _) ?_; simp only [Act.put, List.setIfInBounds_toArray, List.set_cons_zero, List.set_cons_succ])
    | ((with_reducible show wpList _ _ _ (_ :: _) _ _); refine wpl_over rfl 56 (.tmp 4) (.tmp 8) (by rfl) w.heap.size (itC (imM1 k i)) (by rfl) (by rfl) _ cs K1.out (itC_info _) (by rw [itC_len, C1.out]) (itC_one _) ?_; intro w2 hk hg hz; have K2 := Lib.hid hk; have L2 := Lib.hid (bl_g L1.out hg (Nat.le_refl _)); clear hk hg hz; simp only [Act.put, List.setIfInBounds_toArray, List.set_cons_zero, List.set_cons_succ]))
  refine bodyPost_ret (results_blk rfl _ w.heap.size rfl _ _ K2.out _ Tryz.underlying56 rfl 73 (by kernel_rfl) (by simp [itC_len])) rfl ?_
  exact ⟨rfl, L2.out⟩
theorem im_eqIn {i j : It} (hi : ItB i) (hj : ItB j) (w : World) : (Op.equalIn 10000 56 (.agg (itC i).toArray) (.agg (itC j).toArray)).run Tryz.prog w = .ok (decide (i = j)) w := by
  have hE := run_equalIn_deep (P := Tryz.prog) 9996 4 56 (by kernel_rfl)
  have ct : Tryz.prog.cellsOf 56 = 73 := by kernel_rfl
  have hf : ∀ i : It, (Value.agg (itC i).toArray).formed Tryz.prog 56 = true := fun i => by simp [Value.formed, Tryz.underlying56, ct, itC_len]
  have hc : ∀ i : It, (Value.agg (itC i).toArray).cells.toList = itC i := fun i => by simp [Value.cells]
  obtain ⟨r, hr, hrr⟩ := hE w 4 4 _ _ _ _ (hf i) (hf j) (by rw [hc]; exact im_litsOf 0 hi) (by rw [hc]; exact im_litsOf 0 hj)
  have e : r = decide (i = j) := by
    by_cases h : i = j
    · rw [decide_eq_true h]
      exact hrr.2 (by rw [h])
    · rw [decide_eq_false h]
      rcases hb : r with _ | _
      · rfl
      · exact absurd (litsIt_inj (hrr.1 hb)) h
  subst e
  exact hr
theorem im_eql {i j : It} (hi : ItB i) (hj : ItB j) (w : World) : (binOp BinOp.eql 56 (.agg (itC i).toArray) (.agg (itC j).toArray)).run Tryz.prog w = .ok (.bool (decide (i = j))) w := by
  rw [run_eql_struct, im_eqIn hi hj w]
  rfl
theorem im_has : ∃ (zc : Value) (bytes : Nat), (Tryz.prog.info? 56).map (fun i => (i.zero, i.size, i.bytes)) = some (some zc, 73, bytes) ∧ zc.cells.size = 73 ∧ bytes ≤ 200 := ⟨.agg (itC zIt).toArray, 136, by kernel_rfl, by simp [Value.cells, itC_len], by omega⟩
def imMs (k : Int) (m : Nat) : List It := (List.range m).map (fun i : Nat => imM1 k (i : Int))
theorem imMs_succ (k : Int) (m : Nat) : imMs k (m + 1) = imMs k m ++ [imM1 k (m : Int)] := by simp [imMs, List.range_succ]
theorem imMs_len (k : Int) (m : Nat) : (imMs k m).length = m := by simp [imMs]
def imLent (l : List It) (n : Nat) (w : World) (e : Ending) (w' : World) : Prop :=
  ∃ g c, e = .returned (.slice (some ⟨g, 0, none⟩) n c) ∧ n + 12 ≤ c ∧ w'.ownsRow w.heap.size 56 73 (.slice (some ⟨g, 0, none⟩) (n + 12) c) (n + 12) ((l ++ imMs 1 12).flatMap itC) ∧ Below w.heap.size w w'
set_option maxRecDepth 100000 in
set_option maxHeartbeats 2000000 in
theorem imLent_any {w : World} {A : Option Addr} {n c : Nat} {l : List It} (h : Src w 73 (.slice A n c) n (l.flatMap itC)) (hl : l.length = n) (hn : n ≤ 1000000) :
    Calls Tryz.prog 30 #[.slice A n c] w (imLent l n w) := by
  have H := Lib.hid h
  have HL := Lib.hid hl
  clear h hl
  obtain ⟨zc, bytes, hi, hzs, hby⟩ := im_has
  obtain ⟨i0, hi0, hz0, hz1, hz2⟩ := info_parts hi
  have HI := Lib.hid hi0
  have HI2 := Lib.hid hi
  have HZ0 := Lib.hid hz0
  have HZ1 := Lib.hid hz1
  have HZ2 := Lib.hid hz2
  have HZs := Lib.hid hzs
  have HBy := Lib.hid hby
  have hmulb : (n + 12) * bytes ≤ 140737488355328 := by
    have := Nat.mul_le_mul (show n + 12 ≤ 1000012 by omega) hby
    omega
  have HMb := Lib.hid (show ∀ q, q ≤ n + 12 → q * bytes ≤ 140737488355328 from fun q hq => Nat.le_trans (Nat.mul_le_mul_right _ hq) hmulb)
  clear hi0 hi hz0 hz1 hz2 hzs hby hmulb
  go_enter Tryz.func30, Tryz.ntmps30
  go_upto_region 4 with (first
    | (at_make; refine wpList_make_own w rfl (.const (.int .i64 0)) (.tmp 7) 41 (by rfl) w.heap.size 56 i0 _ 73 Tryz.underlying41 HI.out HZ0.out HZ1.out .i64 .i64 _ (n + 12) (by rfl) (by rfl) (by omega) (by rw [HZ2.out, Nat.mul_comm]; exact Nat.le_trans (HMb.out _ (Nat.le_refl _)) (by omega)) (by unfold maxLen; omega) (Nat.le_refl _) ?_; intro w1 ho1 hg1; have O1 := Lib.hid ho1; have L1 := Lib.hid (bl_n (Below.refl _ _) hg1); clear ho1 hg1; simp only [Act.put, List.setIfInBounds_toArray, List.set_cons_zero, List.set_cons_succ])
    | (refine app_src rfl (.tmp 9) (.tmp 10) 41 (by rfl) w.heap.size 56 zc 73 bytes Tryz.underlying41 HI2.out HZs.out (by omega) _ 0 _ (by rfl) O1.out _ n _ (by rfl) (H.out.below L1.out) (fun v hv => by obtain ⟨q, _, hq⟩ := List.mem_flatMap.1 hv; exact itC_one q v hq) (by omega) (HMb.out _ (by omega)) L1.out.size ?_; intro v2 w2 ho2 hg2 hor2; have O2 := Lib.hid ho2; have L2 := Lib.hid (L1.out.grown hg2 L1.out.size (fun k hk => (O1.out.lt k hk).1)); clear ho2 hg2 hor2; simp only [Act.put, List.setIfInBounds_toArray, List.set_cons_zero, List.set_cons_succ]))
  go_loopg [3, 4] 12 (fun k v iv wr => ∃ i : Nat, iv = .int .i64 (i : Int) ∧ i ≤ 12 ∧ i + k ≤ 12 ∧ 12 ≤ i + k ∧ wr.ownsRow w.heap.size 56 73 v (n + i) ((l ++ imMs 1 i).flatMap itC) ∧ Below w.heap.size w wr)
  case atStart => exact ⟨0, rfl, by omega, by omega, by omega, by have h := O2.out; simpa [imMs] using h, L2.out⟩
  case round =>
    obtain ⟨i, rfl, i1, i2, i3, ho, hb⟩ := hrel
    have O := Lib.hid ho
    have LB := Lib.hid hb
    clear ho hb O1 O2 L1 L2
    by_cases hi : i < 12
    · have hiI : (i : Int) < 12 := by omega
      have HE := Lib.hid (show (l ++ imMs 1 (i + 1)).flatMap itC = (l ++ imMs 1 i).flatMap itC ++ itC (imM1 1 (i : Int)) by rw [imMs_succ, ← List.append_assoc, List.flatMap_append, List.flatMap_cons, List.flatMap_nil, List.append_nil])
      have hbi : 0 ≤ (i : Int) ∧ (i : Int) ≤ 1000000000000 := by omega
      have HBi := Lib.hid hbi
      clear hbi
      go_wp2_with (first
        | (go_at_call 75; refine (markItem_any 1 i _ (by omega) HBi.out).mono ?_; rintro e w3 ⟨rfl, hb⟩; have L3 := Lib.hid (below_chain LB.out hb); have O3 := Lib.hid (own_belowR O.out hb); clear hb)
        | ((with_reducible show wpList _ _ _ (_ :: _) _ _); refine wpl_lit1 rfl 41 56 (.tmp 18) (by rfl) (itC (imM1 1 (i : Int))) (by rfl) Tryz.underlying41 (by rw [itC_len]; exact HI2.out) (by rw [itC_len]; exact HZs.out) (by rw [itC_len]; omega) (by rw [itC_len]; omega) ?_; intro w4 hk hg hz; have K4 := Lib.hid hk; have L4 := Lib.hid (bl_n L3.out hg); have O4 := Lib.hid (own_belowR O3.out (bl_n (Below.refl _ w3) hg)); clear hk hg hz; simp only [Act.put, List.setIfInBounds_toArray, List.set_cons_zero, List.set_cons_succ])
        | (refine app_src rfl (.tmp 16) (.tmp 19) 41 (by rfl) w.heap.size 56 zc 73 bytes Tryz.underlying41 HI2.out HZs.out (by omega) _ (n + i) _ (by rfl) O4.out (.slice (some ⟨_, 0, none⟩) 1 1) 1 (itC (imM1 1 (i : Int))) (by rfl) ⟨_, 1, rfl, by rw [itC_len], fun _ => ⟨_, 0, rfl, K4.out.lt, fun j y hy => by rw [Nat.zero_add]; exact K4.out.cell (by rw [List.getElem?_toArray]; exact hy)⟩⟩ (itC_one _) (by omega) (HMb.out _ (by omega)) L4.out.size ?_; intro v5 w5 ho2 hg2 hor2; have O5 := Lib.hid ho2; have L5 := Lib.hid (L4.out.grown hg2 L4.out.size (fun k hk => (O4.out.lt k hk).1)); clear ho2 hg2 hor2; simp only [Act.put, List.setIfInBounds_toArray, List.set_cons_zero, List.set_cons_succ]))
      go_roundg (gk - 1)
      case measure => omega
      case rel => exact ⟨i + 1, by congr 1, by omega, by omega, by omega, by rw [HE.out]; exact O5.out, L5.out⟩
    · obtain rfl : i = 12 := by omega
      obtain ⟨g, c1, hv, h1, h2⟩ := O.out.form (by omega)
      obtain ⟨A2, c2, hv2, hc2⟩ := own_slice O.out
      have HC := Lib.hid (show n + 12 ≤ c1 by rw [hv] at hv2; injection hv2 with _ _ e; rw [e]; exact hc2)
      have hc1 : (n : Int) ≤ c1 := by have := HC.out; omega
      subst hv
      clear hv2 hc2 h1 h2
      go_wp2_with fail
      go_ret
      exact ⟨g, c1, rfl, HC.out, O.out, LB.out⟩
set_option maxRecDepth 100000 in
set_option maxHeartbeats 4000000 in
/-- What was lent, and has not turned, is kept. -/
theorem imKept_any {w : World} {A : Option Addr} {base g n c cap : Nat} {l : List It} (h : Src w 73 (.slice A n cap) n (l.flatMap itC)) (hl : l.length = n) (ho : w.ownsRow base 56 73 (.slice (some ⟨g, 0, none⟩) (n + 12) c) (n + 12) ((l ++ imMs 1 12).flatMap itC)) (hc : n + 12 ≤ c) (hb : ∀ i ∈ l, ItB i) (hn : n ≤ 1000000) :
    Calls Tryz.prog 32 #[.slice (some ⟨g, 0, none⟩) n c, .slice A n cap] w fun e w' => e = .returned (.bool true) ∧ Below w.heap.size w w' := by
  have H := Lib.hid h
  have HL := Lib.hid hl
  have HO := Lib.hid ho
  have HB := Lib.hid hb
  clear h hl ho hb
  have d0 : ((n : Int) != n) = false := by simp
  have hcI : (n : Int) + 12 ≤ c := by omega
  go_enter Tryz.func32, Tryz.ntmps32
  go_upto_region 5 with fail
  go_loopg [6] (n + 12) (fun k iv wr => ∃ i : Nat, iv = .int .i64 (i : Int) ∧ i ≤ n + 12 ∧ i + k ≤ n + 12 ∧ n + 12 ≤ i + k ∧ Below w.heap.size w wr)
  case atStart => exact ⟨0, rfl, by omega, by omega, by omega, Below.refl _ _⟩
  case round =>
    obtain ⟨i, rfl, i1, i2, i3, hb⟩ := hrel
    have LB := Lib.hid hb
    clear hb
    by_cases hlt : i < n + 12
    · have hltI : (i : Int) < (n : Int) + 12 := by omega
      have hlen : (l ++ imMs 1 12).length = n + 12 := by rw [List.length_append, HL.out, imMs_len]
      have hil : i < (l ++ imMs 1 12).length := by rw [hlen]; exact hlt
      obtain ⟨b0, off0, hA0, hx0⟩ := src_part itC_len (Src.of_own (own_belowR HO.out LB.out)) hlen hil
      injection hA0 with hA0
      injection hA0 with e1 e2
      subst e1 e2
      rw [Nat.zero_add] at hx0
      by_cases hin : i < n
      · have d1 : decide ((i : Int) < n) = true := by simp; omega
        have d2 : decide ((n : Int) ≤ i) = false := by simp; omega
        have d1' : decide (i < n) = true := by simpa using hin
        have d2' : decide (n ≤ i) = false := by simp; omega
        have hiI : (i : Int) < n := by omega
        have hil2 : i < l.length := by rw [HL.out]; exact hin
        obtain ⟨b, off, hA, hy⟩ := src_part itC_len (H.out.below LB.out) HL.out hil2
        have fq := fun w => im_eql (HB.out _ (List.getElem_mem hil2)) (HB.out _ (List.getElem_mem hil2)) w
        rw [List.getElem_append_left hil2] at hx0
        generalize l[i] = x at hx0 hy fq
        subst hA
        have q1 : decide (x = x) = true := decide_eq_true rfl
        simp only [q1] at fq
        have HX0 := Lib.hid hx0
        have HY0 := Lib.hid hy
        clear hlen hil hil2 hx0 hy
        go_upto_region 7 with fail
        refine wp_region_qs (fun _ w' => w'.rangeAt g (i * 73) (itC x) ∧ w'.rangeAt b (off + i * 73) (itC x)) [(0, some 1), (1, some 1), (2, some 1), (3, some 1), (4, some 1), (5, some 1), (6, some 1), (7, some 1), (8, some 1), (9, some 1), (10, some 1), (11, some 1), (12, some 1), (13, some 1), (14, some 1), (15, some 1), (16, some 1), (17, some 1), (18, some 1), (19, some 1), (20, some 1), (21, some 0), (22, some 1), (23, some 1), (24, some 1), (25, some 1), (26, some 1), (27, some 1), (28, some 1), (29, some 0), (30, none), (31, some 1), (32, some 1), (33, some 1), (34, some 1)] (by kernel_rfl) (by kernel_rfl) (by kernel_rfl) (by kernel_rfl) (by kernel_rfl) (fun _ _ _ _ _ h => h) ⟨HX0.out, HY0.out⟩ ?_
        simp only [List.map_cons, List.map_nil, List.getD_cons_succ, List.getD_cons_zero]
        (repeat (first | ((first | (refine qs_row (by rfl) 56 (.tmp 30) rfl g (i * 73) rfl (itC x) _ (fun j w' _ h2 h => h.1) Tryz.underlying56 rfl (imC_info x) ?_) | (refine qs_row (by rfl) 56 (.tmp 34) rfl b (off + i * 73) rfl (itC x) _ (fun j w' _ h2 h => h.2) Tryz.underlying56 rfl (imC_info x) ?_)); simp only [Act.put, List.setIfInBounds_toArray, List.set_cons_zero, List.set_cons_succ]) | (refine qs_now (v := ?_) (by rfl) ?_ ?_; rotate_left 1; (· (intro w' hS; go_simp; (try (simp only [↓IntWalk.iteOmega]; go_simp)); (try simp (disch := omega) only [IntWalk.i64_in]); try with_reducible rfl)); simp only [Act.put, List.setIfInBounds_toArray, List.set_cons_zero, List.set_cons_succ]) | (refine qs_run (v := ?_) (by rfl) ?_ ?_; rotate_left 1; (· (intro j w' hS; go_simp; (try (simp only [↓IntWalk.iteOmega]; go_simp)); (try simp (disch := omega) only [IntWalk.i64_in]); try with_reducible rfl)); simp only [Act.put, List.setIfInBounds_toArray, List.set_cons_zero, List.set_cons_succ]) | (refine qs_mid (v := ?_) (by rfl) ?_ ?_; rotate_left 1; (· (intro j w' hj1 hj2 hS; go_simp; (try (simp only [↓IntWalk.iteOmega]; go_simp)); (try simp (disch := omega) only [IntWalk.i64_in]); try with_reducible rfl)); simp only [Act.put, List.setIfInBounds_toArray, List.set_cons_zero, List.set_cons_succ]) | (refine qs_skip (by rfl) ?_; simp only [Act.put, List.setIfInBounds_toArray, List.set_cons_zero, List.set_cons_succ])))
        refine qs_act ?_
        go_wp2_with fail
        refine ⟨⟨HX0.out, HY0.out⟩, ?_⟩
        (repeat (first | (refine qs_now (v := ?_) (by rfl) ?_ ?_; rotate_left 1; (· (intro w' hS; go_simp; (try (simp only [↓IntWalk.iteOmega]; go_simp)); (try simp (disch := omega) only [IntWalk.i64_in]); try with_reducible rfl)); simp only [Act.put, List.setIfInBounds_toArray, List.set_cons_zero, List.set_cons_succ]) | (refine qs_run (v := ?_) (by rfl) ?_ ?_; rotate_left 1; (· (intro j w' hS; go_simp; (try (simp only [↓IntWalk.iteOmega]; go_simp)); (try simp (disch := omega) only [IntWalk.i64_in]); try with_reducible rfl)); simp only [Act.put, List.setIfInBounds_toArray, List.set_cons_zero, List.set_cons_succ]) | (refine qs_mid (v := ?_) (by rfl) ?_ ?_; rotate_left 1; (· (intro j w' hj1 hj2 hS; go_simp; (try (simp only [↓IntWalk.iteOmega]; go_simp)); (try simp (disch := omega) only [IntWalk.i64_in]); try with_reducible rfl)); simp only [Act.put, List.setIfInBounds_toArray, List.set_cons_zero, List.set_cons_succ]) | (refine qs_skip (by rfl) ?_; simp only [Act.put, List.setIfInBounds_toArray, List.set_cons_zero, List.set_cons_succ])))
        refine qs_nil ?_
        go_wp2_with fail
        go_roundg (gk - 1)
        case measure => omega
        case rel => exact ⟨i + 1, by congr 1, by omega, by omega, by omega, LB.out.drew⟩
      · have d1 : decide ((i : Int) < n) = false := by simp; omega
        have d2 : decide ((n : Int) ≤ i) = true := by simp; omega
        have d1' : decide (i < n) = false := by simpa using hin
        have d2' : decide (n ≤ i) = true := by simp; omega
        obtain ⟨j, hj⟩ : ∃ j, j = i - n := ⟨_, rfl⟩
        have hsub : (i : Int) - n = (j : Int) := by omega
        have HSub := Lib.hid hsub
        have hj12 : j < 12 := by omega
        have hwr : IntKind.i64.wrap ((i : Int) - n) = (j : Int) := by rw [HSub.out]; exact IntWalk.i64_in _ (by omega)
        have hx1 : (l ++ imMs 1 12)[i] = imM1 1 (j : Int) := by
          rw [List.getElem_append_right (by rw [HL.out]; omega)]
          simp only [imMs, List.getElem_map, List.getElem_range, HL.out, hj]
        rw [hx1] at hx0
        clear hsub hj hx1 hlen hil
        have HBj := Lib.hid (show 0 ≤ (j : Int) ∧ (j : Int) ≤ 1000000000000 by omega)
        have fq := fun w => im_eql (imM1_B (k := 1) (by omega) HBj.out) (imM1_B (k := 1) (by omega) HBj.out) w
        obtain ⟨y, hy⟩ : ∃ y, y = imM1 1 (j : Int) := ⟨_, rfl⟩
        have HY := Lib.hid hy
        rw [← hy] at hx0 fq
        clear hy
        have q1 : decide (y = y) = true := decide_eq_true rfl
        simp only [q1] at fq
        have HX0 := Lib.hid hx0
        clear hx0
        go_upto_region 7 with fail
        refine wp_region_qs (fun _ w' => w'.rangeAt g (i * 73) (itC y)) [(0, some 1), (1, some 1), (2, some 1), (3, some 1), (4, some 1), (5, some 1), (6, some 1), (7, some 1), (8, some 1), (9, some 1), (10, some 1), (11, some 1), (12, some 1), (13, some 1), (14, some 1), (15, some 1), (16, some 1), (17, some 1), (18, some 1), (19, some 1), (20, some 1), (21, some 0), (22, some 1), (23, some 1), (24, some 1), (25, some 1), (26, some 1), (27, some 1), (28, some 1), (29, some 0), (30, none), (31, some 1), (32, some 1), (33, some 1), (34, some 1)] (by kernel_rfl) (by kernel_rfl) (by kernel_rfl) (by kernel_rfl) (by kernel_rfl) (fun _ _ _ _ _ h => h) HX0.out ?_
        simp only [List.map_cons, List.map_nil, List.getD_cons_succ, List.getD_cons_zero]
        (repeat (first | ((refine qs_row (by rfl) 56 (.tmp 47) rfl g (i * 73) rfl (itC y) _ (fun j w' _ h2 h => h) Tryz.underlying56 rfl (imC_info y) ?_); simp only [Act.put, List.setIfInBounds_toArray, List.set_cons_zero, List.set_cons_succ]) | (refine qs_now (v := ?_) (by rfl) ?_ ?_; rotate_left 1; (· (intro w' hS; go_simp; (try (simp only [↓IntWalk.iteOmega]; go_simp)); (try simp (disch := omega) only [IntWalk.i64_in]); try with_reducible rfl)); simp only [Act.put, List.setIfInBounds_toArray, List.set_cons_zero, List.set_cons_succ]) | (refine qs_run (v := ?_) (by rfl) ?_ ?_; rotate_left 1; (· (intro j w' hS; go_simp; (try (simp only [↓IntWalk.iteOmega]; go_simp)); (try simp (disch := omega) only [IntWalk.i64_in]); try with_reducible rfl)); simp only [Act.put, List.setIfInBounds_toArray, List.set_cons_zero, List.set_cons_succ]) | (refine qs_mid (v := ?_) (by rfl) ?_ ?_; rotate_left 1; (· (intro j w' hj1 hj2 hS; go_simp; (try (simp only [↓IntWalk.iteOmega]; go_simp)); (try simp (disch := omega) only [IntWalk.i64_in]); try with_reducible rfl)); simp only [Act.put, List.setIfInBounds_toArray, List.set_cons_zero, List.set_cons_succ]) | (refine qs_skip (by rfl) ?_; simp only [Act.put, List.setIfInBounds_toArray, List.set_cons_zero, List.set_cons_succ])))
        refine qs_act ?_
        go_wp2_with (go_at_call 75; refine (markItem_any 1 j _ (by omega) HBj.out).mono ?_; rintro ev w4 ⟨rfl, hb⟩; rewrite [← HY.out]; have L4 := Lib.hid hb; clear hb)
        refine ⟨blk_rng (w := wr.drew) HX0.out L4.out (by rw [itC_len]; omega), ?_⟩
        (repeat (first | (refine qs_now (v := ?_) (by rfl) ?_ ?_; rotate_left 1; (· (intro w' hS; go_simp; (try (simp only [↓IntWalk.iteOmega]; go_simp)); (try simp (disch := omega) only [IntWalk.i64_in]); try with_reducible rfl)); simp only [Act.put, List.setIfInBounds_toArray, List.set_cons_zero, List.set_cons_succ]) | (refine qs_run (v := ?_) (by rfl) ?_ ?_; rotate_left 1; (· (intro j w' hS; go_simp; (try (simp only [↓IntWalk.iteOmega]; go_simp)); (try simp (disch := omega) only [IntWalk.i64_in]); try with_reducible rfl)); simp only [Act.put, List.setIfInBounds_toArray, List.set_cons_zero, List.set_cons_succ]) | (refine qs_mid (v := ?_) (by rfl) ?_ ?_; rotate_left 1; (· (intro j w' hj1 hj2 hS; go_simp; (try (simp only [↓IntWalk.iteOmega]; go_simp)); (try simp (disch := omega) only [IntWalk.i64_in]); try with_reducible rfl)); simp only [Act.put, List.setIfInBounds_toArray, List.set_cons_zero, List.set_cons_succ]) | (refine qs_skip (by rfl) ?_; simp only [Act.put, List.setIfInBounds_toArray, List.set_cons_zero, List.set_cons_succ])))
        refine qs_nil ?_
        clear hwr
        go_wp2_with fail
        go_roundg (gk - 1)
        case measure => omega
        case rel => exact ⟨i + 1, by congr 1, by omega, by omega, by omega, below_chain LB.out.drew L4.out⟩
    · obtain rfl : i = n + 12 := by omega
      go_wp2_with fail
      go_ret
      exact ⟨rfl, LB.out⟩
end Go.Proofs.YtgjjdfhoakailaaGreat
