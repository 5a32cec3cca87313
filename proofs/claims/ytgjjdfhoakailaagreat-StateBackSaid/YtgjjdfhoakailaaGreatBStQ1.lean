/-
  what this claim needs of: StQ1 (written by cut.py).
-/
import Derived.Test.YtgjjdfhoakailaaGreatBStArg
import Derived.Test.YtgjjdfhoakailaaGreatBStR
namespace Go.Proofs.YtgjjdfhoakailaaGreat
open Go.RowKit Go.Maps Go.Sort Go.Shelf
set_option linter.unusedVariables false
set_option linter.unusedSimpArgs false

def litsPl (p : Pl) : List Lit := [.int .i64 p.pos, .int .i64 p.sec, .int .i64 p.uni, .int .i64 p.ref]
def litsSl (s : Sl) : List Lit := litsK s.key ++ [.int .i64 s.off, .int .i64 s.mask]
def litsIt (i : It) : List Lit := .int .u8 i.kind :: (litsK i.key ++ (litsPl i.pl ++ (.int .i64 i.snap :: .int .i64 i.unit :: litsSl i.sl)))
theorem litsK_len (K : Key) : (litsK K).length = 32 := by simp [litsK, K.2.1]
theorem litsSl_inj {s t : Sl} (h : litsSl s = litsSl t) : s = t := by
  have h1 := List.append_inj h (by simp [litsK_len])
  have h2 := litsK_inj h1.1
  cases s; cases t
  simp at h1 h2 ⊢
  exact ⟨h2, h1.2⟩
theorem litsPl_inj {s t : Pl} (h : litsPl s = litsPl t) : s = t := by
  cases s; cases t
  simp [litsPl] at h ⊢
  exact h
theorem litsIt_inj {i j : It} (h : litsIt i = litsIt j) : i = j := by
  unfold litsIt at h
  simp only [List.cons.injEq, Lit.int.injEq, true_and] at h
  obtain ⟨h0, h⟩ := h
  obtain ⟨h1, h⟩ := List.append_inj h (by simp [litsK_len])
  obtain ⟨h2, h⟩ := List.append_inj h (by simp [litsPl])
  simp only [List.cons.injEq, Lit.int.injEq, true_and] at h
  have e1 := litsK_inj h1
  have e2 := litsPl_inj h2
  have e3 := litsSl_inj h.2.2
  cases i; cases j
  simp at h0 h e1 e2 e3 ⊢
  exact ⟨h0, e1, e2, h.1, h.2.1, e3⟩
theorem pl_litsOf (d : Nat) {p : Pl} (h : PlB p) : Tryz.prog.keyLits (d + 2) 52 (plC p) = some (litsPl p) := by
  have c1 : Tryz.prog.cellsOf 3 = 1 := by kernel_rfl
  have ct : Tryz.prog.cellsOf 52 = 4 := by kernel_rfl
  obtain ⟨h0, h1, h2, h3⟩ := h
  have e0 := i64_litsOf d p.pos h0
  have e1 := i64_litsOf d p.sec h1
  have e2 := i64_litsOf d p.uni h2
  have e3 := i64_litsOf d p.ref h3
  unfold Program.keyLits
  rw [Tryz.underlying52]
  simp [plC, ct, c1, List.mapM_cons, e0, e1, e2, e3, litsPl]
theorem sl_litsOf (d : Nat) {s : Sl} (h : SlB s) : Tryz.prog.keyLits (d + 3) 54 (slC s) = some (litsSl s) := by
  have c1 : Tryz.prog.cellsOf 3 = 1 := by kernel_rfl
  have ct : Tryz.prog.cellsOf 54 = 34 := by kernel_rfl
  have q0 : ((slC s).drop 0).take 32 = keyL s.key := by unfold slC; rw [List.drop_zero, List.take_left' (keyL_len _)]
  have q1 : ((slC s).drop 32).take 1 = [.int .i64 s.off] := by unfold slC; rw [List.drop_left' (keyL_len _)]; rfl
  have q2 : ((slC s).drop 33).take 1 = [.int .i64 s.mask] := by
    unfold slC
    rw [show 33 = 32 + 1 from rfl, ← List.drop_drop, List.drop_left' (keyL_len _)]
    rfl
  have e0 := key_litsOf d s.key
  have e1 := i64_litsOf (d + 1) s.off h.1
  have e2 := i64_litsOf (d + 1) s.mask h.2
  unfold Program.keyLits
  rw [Tryz.underlying54]
  simp only [ct, slC_len, c1, key_cellsOf, List.mapM_cons, List.mapM_nil, q0, q1, q2, e0, e1, e2, true_and]
  rw [if_pos (by kernel_rfl)]
  rfl
theorem it_litsOf (d : Nat) {i : It} (h : ItB i) : Tryz.prog.keyLits (d + 4) 56 (itC i) = some (litsIt i) := by
  have c0 : Tryz.prog.cellsOf 48 = 1 := by kernel_rfl
  have c1 : Tryz.prog.cellsOf 3 = 1 := by kernel_rfl
  have cp : Tryz.prog.cellsOf 52 = 4 := by kernel_rfl
  have cs : Tryz.prog.cellsOf 54 = 34 := by kernel_rfl
  have ct : Tryz.prog.cellsOf 56 = 73 := by kernel_rfl
  have s1 : (itC i).drop 1 = keyL i.key ++ (plC i.pl ++ (.int .i64 i.snap :: .int .i64 i.unit :: slC i.sl)) := rfl
  have s33 : (itC i).drop 33 = plC i.pl ++ (.int .i64 i.snap :: .int .i64 i.unit :: slC i.sl) := by
    rw [show 33 = 1 + 32 from rfl, ← List.drop_drop, s1, List.drop_left' (keyL_len _)]
  have s37 : (itC i).drop 37 = .int .i64 i.snap :: .int .i64 i.unit :: slC i.sl := by
    rw [show 37 = 33 + 4 from rfl, ← List.drop_drop, s33, List.drop_left' (plC_len _)]
  have s38 : (itC i).drop 38 = .int .i64 i.unit :: slC i.sl := by
    rw [show 38 = 37 + 1 from rfl, ← List.drop_drop, s37]
    rfl
  have s39 : (itC i).drop 39 = slC i.sl := by
    rw [show 39 = 38 + 1 from rfl, ← List.drop_drop, s38]
    rfl
  have q0 : ((itC i).drop 0).take 1 = [.int .u8 i.kind] := rfl
  have q1 : ((itC i).drop 1).take 32 = keyL i.key := by rw [s1, List.take_left' (keyL_len _)]
  have q2 : ((itC i).drop 33).take 4 = plC i.pl := by rw [s33, List.take_left' (plC_len _)]
  have q3 : ((itC i).drop 37).take 1 = [.int .i64 i.snap] := by rw [s37]; rfl
  have q4 : ((itC i).drop 38).take 1 = [.int .i64 i.unit] := by rw [s38]; rfl
  have q5 : ((itC i).drop 39).take 34 = slC i.sl := by rw [s39, List.take_of_length_le (by rw [slC_len]; omega)]
  have e0 : Tryz.prog.keyLits (d + 3) 48 [Value.int .u8 i.kind] = some [Lit.int .u8 i.kind] := by
    unfold Program.keyLits
    rw [Tryz.underlying48]
    simp [u8_wf' h.1]
  have e1 := key_litsOf (d + 1) i.key
  have e2 := pl_litsOf (d + 1) h.2.1
  have e3 := i64_litsOf (d + 2) i.snap h.2.2.1
  have e4 := i64_litsOf (d + 2) i.unit h.2.2.2.1
  have e5 := sl_litsOf d h.2.2.2.2
  unfold Program.keyLits
  rw [Tryz.underlying56]
  simp only [ct, itC_len, c0, c1, cp, cs, key_cellsOf, List.mapM_cons, List.mapM_nil, q0, q1, q2, q3, q4, q5, e0, e1, e2, e3, e4, e5, true_and]
  rw [if_pos (by kernel_rfl)]
  simp [litsIt]
theorem it_eqIn {i j : It} (hi : ItB i) (hj : ItB j) (w : World) : (Op.equalIn 10000 56 (vIt i) (vIt j)).run Tryz.prog w = .ok (decide (i = j)) w := by
  have hE := run_equalIn_deep (P := Tryz.prog) 9996 4 56 (by kernel_rfl)
  have ct : Tryz.prog.cellsOf 56 = 73 := by kernel_rfl
  have hf : ∀ i : It, (vIt i).formed Tryz.prog 56 = true := fun i => by simp [vIt, Value.formed, Tryz.underlying56, ct, itC_len]
  have hc : ∀ i : It, (vIt i).cells.toList = itC i := fun i => by simp [vIt, Value.cells]
  obtain ⟨r, hr, hrr⟩ := hE w 4 4 (vIt i) (vIt j) _ _ (hf i) (hf j) (by rw [hc]; exact it_litsOf 0 hi) (by rw [hc]; exact it_litsOf 0 hj)
  have e : r = decide (i = j) := by
    by_cases h : i = j
    · rw [decide_eq_true h]
      exact hrr.2 (by rw [h])
    · rw [decide_eq_false h]
      rcases hb : r with _ | _
      · rfl
      · exact absurd (litsIt_inj (hrr.1 hb)) h
  subst e
  exact hr
theorem it_neq {i j : It} (hi : ItB i) (hj : ItB j) (w : World) : (binOp BinOp.neq 56 (.agg (itC i).toArray) (.agg (itC j).toArray)).run Tryz.prog w = .ok (.bool (!decide (i = j))) w := by
  have := it_eqIn hi hj w
  unfold vIt at this
  rw [run_neq_struct, this]
  rfl
/-- Rows of items, held against each other. -/
def SmI (l r : List It) (n : Nat) (w : World) (k : Nat) (iv : Value) (wr : World) : Prop :=
  ∃ i : Nat, iv = .int .i64 (i : Int) ∧ i ≤ n ∧ i + k ≤ n ∧ n ≤ i + k ∧ l.take i = r.take i ∧ Below w.heap.size w wr
theorem take_next {l r : List It} {i : Nat} (h : l.take i = r.take i) (hi : i < l.length) (hj : i < r.length) (e : l[i] = r[i]) : l.take (i + 1) = r.take (i + 1) := by
  rw [List.take_succ_eq_append_getElem hi, List.take_succ_eq_append_getElem hj, h, e]
set_option maxRecDepth 100000 in
set_option maxHeartbeats 2000000 in
theorem same_its {w : World} {A B : Option Addr} {n c m d : Nat} {l r : List It} (h : Src w 73 (.slice A n c) n (itsC l)) (hl : l.length = n) (h' : Src w 73 (.slice B m d) m (itsC r)) (hr : r.length = m) (hb : ∀ i ∈ l, ItB i) (hb' : ∀ i ∈ r, ItB i) (hn : n ≤ 1000000000000) (hm : m ≤ 1000000000000) :
    Calls Tryz.prog 18 #[.slice A n c, .slice B m d] w fun e w' => e = .returned (.bool (decide (l = r))) ∧ Below w.heap.size w w' := by
  have H := Lib.hid h
  have HL := Lib.hid hl
  have H' := Lib.hid h'
  have HR := Lib.hid hr
  have HB := Lib.hid hb
  have HB' := Lib.hid hb'
  clear h hl h' hr hb hb'
  by_cases hnm : n = m
  · subst hnm
    have d0 : ((n : Int) != n) = false := by simp
    go_enter Tryz.func18, Tryz.ntmps18
    go_upto_region 4 with fail
    go_loopg [5] n (fun k iv wr => SmI l r n w k iv wr)
    case atStart => exact ⟨0, rfl, by omega, by omega, by omega, by simp, Below.refl _ _⟩
    case round =>
      obtain ⟨i, rfl, i1, i2, i3, ht, hb⟩ := hrel
      have HT := Lib.hid ht
      have LB := Lib.hid hb
      clear ht hb
      by_cases hi : i < n
      · have hiI : (i : Int) < (n : Int) := by omega
        have hil : i < l.length := by rw [HL.out]; exact hi
        have hir : i < r.length := by rw [HR.out]; exact hi
        obtain ⟨b, off, hA, hx⟩ := src_part itC_len (H.out.below LB.out) HL.out hil
        obtain ⟨b', off', hA', hy⟩ := src_part itC_len (H'.out.below LB.out) HR.out hir
        have fq := fun w => it_neq (HB.out _ (List.getElem_mem hil)) (HB'.out _ (List.getElem_mem hir)) w
        have HNx := Lib.hid (fun e => take_next HT.out hil hir e)
        have HNe := Lib.hid (show l[i] ≠ r[i] → decide (l = r) = false from fun hne => by
          rw [decide_eq_false_iff_not]
          intro e
          subst e
          exact hne rfl)
        generalize l[i] = x at hx fq HNx HNe
        generalize r[i] = y at hy fq HNx HNe
        subst hA hA'
        by_cases he : x = y
        · have d1 : decide (x = y) = true := decide_eq_true he
          have HE := Lib.hid he
          clear he
          simp only [d1, Bool.not_true] at fq
          go_upto_region 6 with fail
          refine wp_region_qs (fun _ w' => w'.rangeAt b (off + i * 73) (itC x) ∧ w'.rangeAt b' (off' + i * 73) (itC y)) [(0, some 0), (1, some 0), (2, some 0), (3, some 0), (4, some 0), (5, some 0), (6, some 0), (7, some 0), (8, some 0)] (by kernel_rfl) (by kernel_rfl) (by kernel_rfl) (by kernel_rfl) (by kernel_rfl) (fun _ _ _ _ _ h => h) ⟨hx, hy⟩ ?_
          simp only [List.map_cons, List.map_nil, List.getD_cons_succ, List.getD_cons_zero]
          (repeat (first | ((first | (refine qs_row (by rfl) 56 (.tmp 19) rfl b (off + i * 73) rfl (itC x) _ (fun j w' _ h2 h => h.1) Tryz.underlying56 rfl (itC_info x) ?_) | (refine qs_row (by rfl) 56 (.tmp 23) rfl b' (off' + i * 73) rfl (itC y) _ (fun j w' _ h2 h => h.2) Tryz.underlying56 rfl (itC_info y) ?_)); simp only [Act.put, List.setIfInBounds_toArray, List.set_cons_zero, List.set_cons_succ]) | (refine qs_now (v := ?_) (by rfl) ?_ ?_; rotate_left 1; (· (intro w' hS; go_simp; (try (simp only [↓IntWalk.iteOmega]; go_simp)); (try simp (disch := omega) only [IntWalk.i64_in]); try with_reducible rfl)); simp only [Act.put, List.setIfInBounds_toArray, List.set_cons_zero, List.set_cons_succ]) | (refine qs_run (v := ?_) (by rfl) ?_ ?_; rotate_left 1; (· (intro j w' hS; go_simp; (try (simp only [↓IntWalk.iteOmega]; go_simp)); (try simp (disch := omega) only [IntWalk.i64_in]); try with_reducible rfl)); simp only [Act.put, List.setIfInBounds_toArray, List.set_cons_zero, List.set_cons_succ]) | (refine qs_mid (v := ?_) (by rfl) ?_ ?_; rotate_left 1; (· (intro j w' hj1 hj2 hS; go_simp; (try (simp only [↓IntWalk.iteOmega]; go_simp)); (try simp (disch := omega) only [IntWalk.i64_in]); try with_reducible rfl)); simp only [Act.put, List.setIfInBounds_toArray, List.set_cons_zero, List.set_cons_succ]) | (refine qs_skip (by rfl) ?_; simp only [Act.put, List.setIfInBounds_toArray, List.set_cons_zero, List.set_cons_succ])))
          refine qs_nil ?_
          go_wp2_with fail
          go_roundg (gk - 1)
          case measure => omega
          case rel => exact ⟨i + 1, by congr 1, by omega, by omega, by omega, HNx.out HE.out, LB.out.drew⟩
        · have d1 : decide (x = y) = false := decide_eq_false he
          have HE := Lib.hid (HNe.out he)
          clear he
          simp only [d1, Bool.not_false] at fq
          go_upto_region 6 with fail
          refine wp_region_qs (fun _ w' => w'.rangeAt b (off + i * 73) (itC x) ∧ w'.rangeAt b' (off' + i * 73) (itC y)) [(0, some 0), (1, some 0), (2, some 0), (3, some 0), (4, some 0), (5, some 0), (6, some 0), (7, some 0), (8, some 0)] (by kernel_rfl) (by kernel_rfl) (by kernel_rfl) (by kernel_rfl) (by kernel_rfl) (fun _ _ _ _ _ h => h) ⟨hx, hy⟩ ?_
          simp only [List.map_cons, List.map_nil, List.getD_cons_succ, List.getD_cons_zero]
          (repeat (first | ((first | (refine qs_row (by rfl) 56 (.tmp 19) rfl b (off + i * 73) rfl (itC x) _ (fun j w' _ h2 h => h.1) Tryz.underlying56 rfl (itC_info x) ?_) | (refine qs_row (by rfl) 56 (.tmp 23) rfl b' (off' + i * 73) rfl (itC y) _ (fun j w' _ h2 h => h.2) Tryz.underlying56 rfl (itC_info y) ?_)); simp only [Act.put, List.setIfInBounds_toArray, List.set_cons_zero, List.set_cons_succ]) | (refine qs_now (v := ?_) (by rfl) ?_ ?_; rotate_left 1; (· (intro w' hS; go_simp; (try (simp only [↓IntWalk.iteOmega]; go_simp)); (try simp (disch := omega) only [IntWalk.i64_in]); try with_reducible rfl)); simp only [Act.put, List.setIfInBounds_toArray, List.set_cons_zero, List.set_cons_succ]) | (refine qs_run (v := ?_) (by rfl) ?_ ?_; rotate_left 1; (· (intro j w' hS; go_simp; (try (simp only [↓IntWalk.iteOmega]; go_simp)); (try simp (disch := omega) only [IntWalk.i64_in]); try with_reducible rfl)); simp only [Act.put, List.setIfInBounds_toArray, List.set_cons_zero, List.set_cons_succ]) | (refine qs_mid (v := ?_) (by rfl) ?_ ?_; rotate_left 1; (· (intro j w' hj1 hj2 hS; go_simp; (try (simp only [↓IntWalk.iteOmega]; go_simp)); (try simp (disch := omega) only [IntWalk.i64_in]); try with_reducible rfl)); simp only [Act.put, List.setIfInBounds_toArray, List.set_cons_zero, List.set_cons_succ]) | (refine qs_skip (by rfl) ?_; simp only [Act.put, List.setIfInBounds_toArray, List.set_cons_zero, List.set_cons_succ])))
          refine qs_nil ?_
          go_wp2_with fail
          go_ret
          exact ⟨by rw [HE.out]; rfl, LB.out.drew⟩
      · have hiI : ¬ (i : Int) < (n : Int) := by omega
        have HF := Lib.hid (show decide (l = r) = true by
          have := HT.out
          rw [List.take_of_length_le (by rw [HL.out]; omega), List.take_of_length_le (by rw [HR.out]; omega)] at this
          exact decide_eq_true this)
        go_wp2_with fail
        go_ret
        exact ⟨by rw [HF.out]; rfl, LB.out⟩
  · have d0 : ((n : Int) != m) = true := by simp; omega
    have HF := Lib.hid (show decide (l = r) = false by
      rw [decide_eq_false_iff_not]
      rintro rfl
      have h1 := HL.out
      have h2 := HR.out
      omega)
    go_enter Tryz.func18, Tryz.ntmps18
    go_wp2_with fail
    go_ret
    exact ⟨by rw [HF.out]; rfl, Below.refl _ _⟩
end Go.Proofs.YtgjjdfhoakailaaGreat
