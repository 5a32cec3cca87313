/-
  refs: Delta: walked.
-/
import Derived.Test.YtgjjdfhoakailaaGreatStC2
namespace Go.Proofs.YtgjjdfhoakailaaGreat
open Go.RowKit Go.Maps Go.Sort Go.Shelf
set_option linter.unusedVariables false
set_option linter.unusedSimpArgs false

def negL (a : List Cn) : SuM := a.map (fun c => (c.key, -c.ref))
def posL (a : List Cn) : SuM := a.map (fun c => (c.key, c.ref))
def deltaL (a b : List Cn) : SuM := negL a ++ posL b
/-- What is not the same. -/
def deltaC (a b : List Cn) : List Cn := rowC (sumF (deltaL a b))
def RefsOk (a : List Cn) : Prop := a.length ≤ 1000000 ∧ ∀ c ∈ a, -1000000000 ≤ c.ref ∧ c.ref ≤ 1000000000
def DlI (w : World) (pre : SuM) (rest : SuM) (n : Nat) (k : Nat) (iv : Value) (wr : World) : Prop :=
  ∃ i : Nat, iv = .int .i64 (i : Int) ∧ i ≤ n ∧ i + k ≤ n ∧ n ≤ i + k ∧ MapIs Tryz.prog 50 vKey klK (Value.int .i64) wr w.heap.size (sumF (pre ++ rest.take i)) ∧ Below w.heap.size w wr
theorem cnC_ref (c : Cn) : (cnC c)[32]? = some (.int .i64 c.ref) := by
  unfold cnC
  rw [List.getElem?_append_right (by rw [keyL_len]; omega), keyL_len]
  rfl
theorem cnC_key (c : Cn) : ((cnC c).drop 0).take (keyL c.key).length = keyL c.key := by
  unfold cnC
  rw [List.drop_zero, List.take_left]
theorem delta_bound {pre rest : SuM} (h : ∀ p ∈ pre ++ rest, -((1000000000 : Nat) : Int) ≤ p.2 ∧ p.2 ≤ ((1000000000 : Nat) : Int)) (hl : (pre ++ rest).length ≤ 2000000) (i : Nat) : (sumF (pre ++ rest.take i)).length ≤ 2000000 ∧ ∀ K, -2000000000000000 ≤ valF (sumF (pre ++ rest.take i)) K ∧ valF (sumF (pre ++ rest.take i)) K ≤ 2000000000000000 := by
  have h1 := sumF_facts 1000000000 (pre ++ rest.take i) (fun p hp => h p (by
    rcases List.mem_append.1 hp with hp | hp
    · exact List.mem_append_left _ hp
    · exact List.mem_append_right _ (List.mem_of_mem_take hp)))
  have h2 : (pre ++ rest.take i).length ≤ 2000000 := by
    rw [List.length_append] at hl ⊢
    rw [List.length_take]
    omega
  refine ⟨by omega, fun K => ?_⟩
  have := h1.2 K
  have h3 : ((1000000000 : Nat) : Int) * ((pre ++ rest.take i).length : Int) ≤ 2000000000000000 := by omega
  omega
set_option maxRecDepth 100000 in
set_option maxHeartbeats 4000000 in
theorem delta_any {w : World} {A B : Option Addr} {n c m d : Nat} {l r : List Cn} (h : Src w 33 (.slice A n c) n (cnsC l)) (hl : l.length = n) (h' : Src w 33 (.slice B m d) m (cnsC r)) (hr : r.length = m) (hL : RefsOk l) (hR : RefsOk r) :
    Calls Tryz.prog 49 #[.slice A n c, .slice B m d] w (CnPost (deltaC l r) w) := by
  have H1 := Lib.hid h
  have HL1 := Lib.hid hl
  have H2 := Lib.hid h'
  have HL2 := Lib.hid hr
  have hn : n ≤ 1000000 := by have := hL.1; omega
  have hm : m ≤ 1000000 := by have := hR.1; omega
  have HRf := Lib.hid (show ∀ c ∈ l ++ r, -1000000000 ≤ c.ref ∧ c.ref ≤ 1000000000 from fun c hc => by
    rcases List.mem_append.1 hc with hc | hc
    · exact hL.2 c hc
    · exact hR.2 c hc)
  have B1 := Lib.hid (fun i => delta_bound (pre := []) (rest := negL l) (fun p hp => by
    rw [List.nil_append] at hp
    obtain ⟨c, hc, rfl⟩ := List.mem_map.1 hp
    have := hL.2 c hc
    first | omega | (simp only; omega)) (by first | (simp [negL]; done) | (simp [negL]; omega)) i)
  have B2 := Lib.hid (fun i => delta_bound (pre := negL l) (rest := posL r) (fun p hp => by
    rcases List.mem_append.1 hp with hp | hp
    · obtain ⟨c, hc, rfl⟩ := List.mem_map.1 hp
      have := hL.2 c hc
      simp only
      omega
    · obtain ⟨c, hc, rfl⟩ := List.mem_map.1 hp
      have := hR.2 c hc
      simp only
      omega) (by simp [negL, posL]; omega) i)
  clear h hl h' hr hL hR
  have hmm := @run_makeMap Tryz.prog
  go_enter Tryz.func49, Tryz.ntmps49
  go_wp2_with fail
  obtain ⟨w1, hw1⟩ : ∃ w1, w1 = w.alloc (Obj.map #[] 0) := ⟨_, rfl⟩
  have M1 := Lib.hid (show MapIs Tryz.prog 50 vKey klK (Value.int .i64) w1 w.heap.size ([] : SuM) by rw [hw1]; exact MapIs.made w _ _ _ _ _)
  have L1 := Lib.hid (show Below w.heap.size w w1 by rw [hw1]; exact (Below.refl _ _).alloc (Nat.le_refl _) _)
  rw [← hw1]
  clear hw1 hmm
  go_loopg [13] n (fun k iv wr => DlI w [] (negL l) n k iv wr)
  case atStart => exact ⟨0, rfl, by omega, by omega, by omega, M1.out, L1.out⟩
  case round =>
    clear M1 L1
    obtain ⟨i, rfl, i1, i2, i3, hm, hb⟩ := hrel
    have M := Lib.hid hm
    have LB := Lib.hid hb
    clear hm hb
    by_cases hi : i < n
    · have hiI : (i : Int) < (n : Int) := by omega
      have hil : i < l.length := by rw [HL1.out]; exact hi
      obtain ⟨b, off, hA, hr⟩ := src_part cnC_len (H1.out.below LB.out) HL1.out hil
      have HTk := Lib.hid (show [] ++ (negL l).take (i + 1) = ([] ++ (negL l).take i) ++ [(l[i].key, - l[i].ref)] by
        unfold negL
        rw [List.take_succ_eq_append_getElem (by rw [List.length_map]; exact hil), List.getElem_map, List.append_assoc]
        all_goals first | rfl | (simp; done))
      have hxr := HRf.out l[i] (by simp)
      generalize l[i] = x at hr HTk hxr
      obtain ⟨hxr1, hxr2⟩ := hxr
      subst hA
      have Rg := Lib.hid hr
      clear hr hil
      go_upto_region 5 with (first
        | ((with_reducible show wpList _ _ _ (_ :: _) _ _); refine wpl_sidx rfl 85 (.tmp 11) (.tmp 13) rfl Tryz.underlying85 Tryz.sizeOf89 b off n c i rfl rfl hi ?_)
        | ((with_reducible show wpList _ _ _ (_ :: _) _ _); refine wpList_load_mid rfl 89 (.tmp 15) rfl b (off + i * 33) rfl (cnC x) _ Rg.out Tryz.underlying89 rfl (cnC_info x) ?_)
        | ((with_reducible show wpList _ _ _ (_ :: _) _ _); refine wpl_alloc rfl 89 rfl Tryz.zeroValue89 33 rfl ?_; intro wa cs hk hc hg hz; have K := Lib.hid hk; have C := Lib.hid hc; have G := Lib.hid hg; clear hk hc hg hz)
        | ((with_reducible show wpList _ _ _ (_ :: _) _ _); refine wpl_over rfl 89 (.tmp 7) (.tmp 16) rfl wr.heap.size (cnC x) rfl rfl _ cs K.out (cnC_info x) (by rw [cnC_len, C.out]) (cnC_one x) ?_; intro wb hk hg hz; have K2 := Lib.hid hk; have L2 := Lib.hid (bl_g (bl_n (Below.refl _ _) G.out) hg (Nat.le_refl _)); clear hk hg hz))
      have M2 := Lib.hid (M.out.below L2.out M.out.lt)
      have LB2 := Lib.hid (below_chain LB.out L2.out)
      have ck := K2.out.cell (i := 32) (by rw [List.getElem?_toArray]; exact cnC_ref x)
      have Q := Lib.hid (K2.out.part 0 (keyL x.key) (cnC_key x))
      have HF := Lib.hid (B1.out i)
      have HN := Lib.hid (show (sumF ([] ++ (negL l).take i)).length < maxLen by have := HF.out.1; unfold maxLen; omega)
      obtain ⟨m0, hm0⟩ : ∃ m, m = valF (sumF ([] ++ (negL l).take i)) x.key := ⟨_, rfl⟩
      have hmb : -2000000000000000 ≤ m0 ∧ m0 ≤ 2000000000000000 := by have := HF.out.2 x.key; rw [hm0]; exact this
      obtain ⟨hmb1, hmb2⟩ := hmb
      have HM0 := Lib.hid hm0
      clear hm0
      refine wp_region_qs (fun j0 w' => j0 ≤ 1 → ((∃ M : SuM, MapIs Tryz.prog 50 vKey klK (Value.int .i64) w' w.heap.size M ∧ valF M x.key = m0) ∧ w'.rangeAt wr.heap.size 0 (keyL x.key)) ∧ w'.cell? ⟨wr.heap.size, 32, none⟩ = some (.int .i64 x.ref)) [(0, some 0), (1, some 0), (2, some 0), (3, some 1), (4, some 0), (5, some 0), (6, some 1), (7, none), (8, some 1), (9, none)] (by kernel_rfl) (by kernel_rfl) (by kernel_rfl) (by kernel_rfl) (by kernel_rfl) (fun _ _ _ _ _ h => h) (fun _ => ⟨⟨⟨_, M2.out.drew, HM0.out.symm⟩, Q.out⟩, ck⟩) ?_
      simp only [List.map_cons, List.map_nil, List.getD_cons_succ, List.getD_cons_zero]
      (repeat (first | ((first | (refine qs_row (by rfl) 50 (.tmp 18) rfl wr.heap.size 0 rfl (keyL x.key) _ (fun j w' _ h2 h => (h (by omega)).1.2) Tryz.underlying50 rfl (keyL_info _) ?_) | (refine qs_sum (by rfl) 141 (.tmp 17) (.tmp 19) rfl Tryz.underlying141 rfl x.key rfl m0 (fun j w' _ h2 h => (h (by omega)).1.1) ?_) | (refine qs_mid (v := .int .i64 x.ref) (by rfl) ?_ ?_; rotate_left 1; (· (intro j w' h1 h2 h; have h3 := (h (by omega)).2; clear h; go_simp; done)))); simp only [Act.put, List.setIfInBounds_toArray, List.set_cons_zero, List.set_cons_succ]) | (refine qs_now (v := ?_) (by rfl) ?_ ?_; rotate_left 1; (· (intro w' hS; go_simp; (try (simp only [↓IntWalk.iteOmega]; go_simp)); (try simp (disch := omega) only [IntWalk.i64_in]); try with_reducible rfl)); simp only [Act.put, List.setIfInBounds_toArray, List.set_cons_zero, List.set_cons_succ]) | (refine qs_run (v := ?_) (by rfl) ?_ ?_; rotate_left 1; (· (intro j w' hS; go_simp; (try (simp only [↓IntWalk.iteOmega]; go_simp)); (try simp (disch := omega) only [IntWalk.i64_in]); try with_reducible rfl)); simp only [Act.put, List.setIfInBounds_toArray, List.set_cons_zero, List.set_cons_succ]) | (refine qs_mid (v := ?_) (by rfl) ?_ ?_; rotate_left 1; (· (intro j w' hj1 hj2 hS; go_simp; (try (simp only [↓IntWalk.iteOmega]; go_simp)); (try simp (disch := omega) only [IntWalk.i64_in]); try with_reducible rfl)); simp only [Act.put, List.setIfInBounds_toArray, List.set_cons_zero, List.set_cons_succ]) | (refine qs_skip (by rfl) ?_; simp only [Act.put, List.setIfInBounds_toArray, List.set_cons_zero, List.set_cons_succ])))
      refine qs_act ?_
      go_wp2_with ((with_reducible show wpList _ _ _ (_ :: _) _ _); refine wpl_mentry2 rfl 141 (.tmp 17) (.tmp 19) rfl keyed_key keyLaw_key Tryz.underlying141 M2.out.drew HN.out rfl x.key rfl Tryz.zeroValue3 (klK_inj' _) (keyOf_key _) 0 rfl ?_; intro v0 st w3 hg hm hst; have G3 := Lib.hid hg; have M3 := Lib.hid hm; have ST := Lib.hid hst; clear hg hm hst)
      have hne := blk_ne_map M2.out K2.out
      have K3 := Lib.hid (K2.out.drew.grown G3.out (by simp; exact hne))
      have L3 := Lib.hid (show Below w.heap.size w w3 from bl_g LB2.out.drew G3.out (Nat.le_refl _))
      have hv : valF (aput (sumF ([] ++ (negL l).take i)) x.key ((aget (sumF ([] ++ (negL l).take i)) x.key).getD 0)) x.key = m0 := by
        unfold valF
        rw [aget_put, if_pos rfl]
        exact HM0.out.symm
      have HV := Lib.hid hv
      clear hv hne
      refine ⟨fun _ => ⟨⟨⟨_, M3.out, HV.out⟩, K3.out.part 0 (keyL x.key) (cnC_key x)⟩, K3.out.cell (i := 32) (by rw [List.getElem?_toArray]; exact cnC_ref x)⟩, ?_⟩
      (repeat (first | ((first | (refine qs_row (by rfl) 50 (.tmp 18) rfl wr.heap.size 0 rfl (keyL x.key) _ (fun j w' _ h2 h => (h (by omega)).1.2) Tryz.underlying50 rfl (keyL_info _) ?_) | (refine qs_sum (by rfl) 141 (.tmp 17) (.tmp 19) rfl Tryz.underlying141 rfl x.key rfl m0 (fun j w' _ h2 h => (h (by omega)).1.1) ?_) | (refine qs_mid (v := .int .i64 x.ref) (by rfl) ?_ ?_; rotate_left 1; (· (intro j w' h1 h2 h; have h3 := (h (by omega)).2; clear h; go_simp; done)))); simp only [Act.put, List.setIfInBounds_toArray, List.set_cons_zero, List.set_cons_succ]) | (refine qs_now (v := ?_) (by rfl) ?_ ?_; rotate_left 1; (· (intro w' hS; go_simp; (try (simp only [↓IntWalk.iteOmega]; go_simp)); (try simp (disch := omega) only [IntWalk.i64_in]); try with_reducible rfl)); simp only [Act.put, List.setIfInBounds_toArray, List.set_cons_zero, List.set_cons_succ]) | (refine qs_run (v := ?_) (by rfl) ?_ ?_; rotate_left 1; (· (intro j w' hS; go_simp; (try (simp only [↓IntWalk.iteOmega]; go_simp)); (try simp (disch := omega) only [IntWalk.i64_in]); try with_reducible rfl)); simp only [Act.put, List.setIfInBounds_toArray, List.set_cons_zero, List.set_cons_succ]) | (refine qs_mid (v := ?_) (by rfl) ?_ ?_; rotate_left 1; (· (intro j w' hj1 hj2 hS; go_simp; (try (simp only [↓IntWalk.iteOmega]; go_simp)); (try simp (disch := omega) only [IntWalk.i64_in]); try with_reducible rfl)); simp only [Act.put, List.setIfInBounds_toArray, List.set_cons_zero, List.set_cons_succ]) | (refine qs_skip (by rfl) ?_; simp only [Act.put, List.setIfInBounds_toArray, List.set_cons_zero, List.set_cons_succ])))
      refine qs_act ?_
      go_wp2_with ((with_reducible show wpList _ _ _ (_ :: _) _ _); refine wpl_mestore rfl 141 (.tmp 17) (.tmp 25) (.tmp 23) rfl (m0 - x.ref) rfl rfl rfl ST.out ?_; intro w4 hm hg; have M4 := Lib.hid hm; have G4 := Lib.hid hg; clear hm hg)
      refine ⟨fun h => absurd h (by omega), ?_⟩
      refine qs_nil ?_
      go_wp2_with fail
      go_roundg (gk - 1)
      case measure => omega
      case rel =>
        refine ⟨i + 1, by congr 1, by omega, by omega, by omega, ?_, bl_g L3.out G4.out (Nat.le_refl _)⟩
        rw [HTk.out, sumF_snoc]
        unfold addS
        rw [← HM0.out]
        exact M4.out
    · have hiI : ¬ (i : Int) < (n : Int) := by omega
      have MA := Lib.hid (show MapIs Tryz.prog 50 vKey klK (Value.int .i64) wr w.heap.size (sumF (negL l ++ (posL r).take 0)) by
        have := M.out
        rw [List.nil_append, List.take_of_length_le (by unfold negL; rw [List.length_map, HL1.out]; omega)] at this
        rw [List.take_zero, List.append_nil]
        exact this)
      have LA := Lib.hid LB.out
      clear M LB
      go_wp2_with fail
      go_loopg [29] m (fun k iv wr => DlI w (negL l) (posL r) m k iv wr)
      case atStart => exact ⟨0, rfl, by omega, by omega, by omega, MA.out, LA.out⟩
      case round =>
        clear MA LA
        obtain ⟨i, rfl, i1, i2, i3, hm, hb⟩ := hrel
        have M := Lib.hid hm
        have LB := Lib.hid hb
        clear hm hb
        by_cases hi : i < m
        · have hiI : (i : Int) < (m : Int) := by omega
          have hil : i < r.length := by rw [HL2.out]; exact hi
          obtain ⟨b, off, hA, hr⟩ := src_part cnC_len (H2.out.below LB.out) HL2.out hil
          have HTk := Lib.hid (show (negL l) ++ (posL r).take (i + 1) = ((negL l) ++ (posL r).take i) ++ [(r[i].key, id r[i].ref)] by
            unfold posL
            rw [List.take_succ_eq_append_getElem (by rw [List.length_map]; exact hil), List.getElem_map, List.append_assoc]
            all_goals first | rfl | (simp; done))
          have hxr := HRf.out r[i] (by simp)
          generalize r[i] = x at hr HTk hxr
          obtain ⟨hxr1, hxr2⟩ := hxr
          subst hA
          have Rg := Lib.hid hr
          clear hr hil
          go_upto_region 10 with (first
            | ((with_reducible show wpList _ _ _ (_ :: _) _ _); refine wpl_sidx rfl 85 (.tmp 27) (.tmp 29) rfl Tryz.underlying85 Tryz.sizeOf89 b off m d i rfl rfl hi ?_)
            | ((with_reducible show wpList _ _ _ (_ :: _) _ _); refine wpList_load_mid rfl 89 (.tmp 31) rfl b (off + i * 33) rfl (cnC x) _ Rg.out Tryz.underlying89 rfl (cnC_info x) ?_)
            | ((with_reducible show wpList _ _ _ (_ :: _) _ _); refine wpl_alloc rfl 89 rfl Tryz.zeroValue89 33 rfl ?_; intro wa cs hk hc hg hz; have K := Lib.hid hk; have C := Lib.hid hc; have G := Lib.hid hg; clear hk hc hg hz)
            | ((with_reducible show wpList _ _ _ (_ :: _) _ _); refine wpl_over rfl 89 (.tmp 9) (.tmp 32) rfl wr.heap.size (cnC x) rfl rfl _ cs K.out (cnC_info x) (by rw [cnC_len, C.out]) (cnC_one x) ?_; intro wb hk hg hz; have K2 := Lib.hid hk; have L2 := Lib.hid (bl_g (bl_n (Below.refl _ _) G.out) hg (Nat.le_refl _)); clear hk hg hz))
          have M2 := Lib.hid (M.out.below L2.out M.out.lt)
          have LB2 := Lib.hid (below_chain LB.out L2.out)
          have ck := K2.out.cell (i := 32) (by rw [List.getElem?_toArray]; exact cnC_ref x)
          have Q := Lib.hid (K2.out.part 0 (keyL x.key) (cnC_key x))
          have HF := Lib.hid (B2.out i)
          have HN := Lib.hid (show (sumF ((negL l) ++ (posL r).take i)).length < maxLen by have := HF.out.1; unfold maxLen; omega)
          obtain ⟨m0, hm0⟩ : ∃ m, m = valF (sumF ((negL l) ++ (posL r).take i)) x.key := ⟨_, rfl⟩
          have hmb : -2000000000000000 ≤ m0 ∧ m0 ≤ 2000000000000000 := by have := HF.out.2 x.key; rw [hm0]; exact this
          obtain ⟨hmb1, hmb2⟩ := hmb
          have HM0 := Lib.hid hm0
          clear hm0
          refine wp_region_qs (fun j0 w' => j0 ≤ 1 → ((∃ M : SuM, MapIs Tryz.prog 50 vKey klK (Value.int .i64) w' w.heap.size M ∧ valF M x.key = m0) ∧ w'.rangeAt wr.heap.size 0 (keyL x.key)) ∧ w'.cell? ⟨wr.heap.size, 32, none⟩ = some (.int .i64 x.ref)) [(0, some 0), (1, some 0), (2, some 0), (3, some 1), (4, some 0), (5, some 0), (6, some 1), (7, none), (8, some 1), (9, none)] (by kernel_rfl) (by kernel_rfl) (by kernel_rfl) (by kernel_rfl) (by kernel_rfl) (fun _ _ _ _ _ h => h) (fun _ => ⟨⟨⟨_, M2.out.drew, HM0.out.symm⟩, Q.out⟩, ck⟩) ?_
          simp only [List.map_cons, List.map_nil, List.getD_cons_succ, List.getD_cons_zero]
          (repeat (first | ((first | (refine qs_row (by rfl) 50 (.tmp 34) rfl wr.heap.size 0 rfl (keyL x.key) _ (fun j w' _ h2 h => (h (by omega)).1.2) Tryz.underlying50 rfl (keyL_info _) ?_) | (refine qs_sum (by rfl) 141 (.tmp 33) (.tmp 35) rfl Tryz.underlying141 rfl x.key rfl m0 (fun j w' _ h2 h => (h (by omega)).1.1) ?_) | (refine qs_mid (v := .int .i64 x.ref) (by rfl) ?_ ?_; rotate_left 1; (· (intro j w' h1 h2 h; have h3 := (h (by omega)).2; clear h; go_simp; done)))); simp only [Act.put, List.setIfInBounds_toArray, List.set_cons_zero, List.set_cons_succ]) | (refine qs_now (v := ?_) (by rfl) ?_ ?_; rotate_left 1; (· (intro w' hS; go_simp; (try (simp only [↓IntWalk.iteOmega]; go_simp)); (try simp (disch := omega) only [IntWalk.i64_in]); try with_reducible rfl)); simp only [Act.put, List.setIfInBounds_toArray, List.set_cons_zero, List.set_cons_succ]) | (refine qs_run (v := ?_) (by rfl) ?_ ?_; rotate_left 1; (· (intro j w' hS; go_simp; (try (simp only [↓IntWalk.iteOmega]; go_simp)); (try simp (disch := omega) only [IntWalk.i64_in]); try with_reducible rfl)); simp only [Act.put, List.setIfInBounds_toArray, List.set_cons_zero, List.set_cons_succ]) | (refine qs_mid (v := ?_) (by rfl) ?_ ?_; rotate_left 1; (· (intro j w' hj1 hj2 hS; go_simp; (try (simp only [↓IntWalk.iteOmega]; go_simp)); (try simp (disch := omega) only [IntWalk.i64_in]); try with_reducible rfl)); simp only [Act.put, List.setIfInBounds_toArray, List.set_cons_zero, List.set_cons_succ]) | (refine qs_skip (by rfl) ?_; simp only [Act.put, List.setIfInBounds_toArray, List.set_cons_zero, List.set_cons_succ])))
          refine qs_act ?_
          go_wp2_with ((with_reducible show wpList _ _ _ (_ :: _) _ _); refine wpl_mentry2 rfl 141 (.tmp 33) (.tmp 35) rfl keyed_key keyLaw_key Tryz.underlying141 M2.out.drew HN.out rfl x.key rfl Tryz.zeroValue3 (klK_inj' _) (keyOf_key _) 0 rfl ?_; intro v0 st w3 hg hm hst; have G3 := Lib.hid hg; have M3 := Lib.hid hm; have ST := Lib.hid hst; clear hg hm hst)
          have hne := blk_ne_map M2.out K2.out
          have K3 := Lib.hid (K2.out.drew.grown G3.out (by simp; exact hne))
          have L3 := Lib.hid (show Below w.heap.size w w3 from bl_g LB2.out.drew G3.out (Nat.le_refl _))
          have hv : valF (aput (sumF ((negL l) ++ (posL r).take i)) x.key ((aget (sumF ((negL l) ++ (posL r).take i)) x.key).getD 0)) x.key = m0 := by
            unfold valF
            rw [aget_put, if_pos rfl]
            exact HM0.out.symm
          have HV := Lib.hid hv
          clear hv hne
          refine ⟨fun _ => ⟨⟨⟨_, M3.out, HV.out⟩, K3.out.part 0 (keyL x.key) (cnC_key x)⟩, K3.out.cell (i := 32) (by rw [List.getElem?_toArray]; exact cnC_ref x)⟩, ?_⟩
          (repeat (first | ((first | (refine qs_row (by rfl) 50 (.tmp 34) rfl wr.heap.size 0 rfl (keyL x.key) _ (fun j w' _ h2 h => (h (by omega)).1.2) Tryz.underlying50 rfl (keyL_info _) ?_) | (refine qs_sum (by rfl) 141 (.tmp 33) (.tmp 35) rfl Tryz.underlying141 rfl x.key rfl m0 (fun j w' _ h2 h => (h (by omega)).1.1) ?_) | (refine qs_mid (v := .int .i64 x.ref) (by rfl) ?_ ?_; rotate_left 1; (· (intro j w' h1 h2 h; have h3 := (h (by omega)).2; clear h; go_simp; done)))); simp only [Act.put, List.setIfInBounds_toArray, List.set_cons_zero, List.set_cons_succ]) | (refine qs_now (v := ?_) (by rfl) ?_ ?_; rotate_left 1; (· (intro w' hS; go_simp; (try (simp only [↓IntWalk.iteOmega]; go_simp)); (try simp (disch := omega) only [IntWalk.i64_in]); try with_reducible rfl)); simp only [Act.put, List.setIfInBounds_toArray, List.set_cons_zero, List.set_cons_succ]) | (refine qs_run (v := ?_) (by rfl) ?_ ?_; rotate_left 1; (· (intro j w' hS; go_simp; (try (simp only [↓IntWalk.iteOmega]; go_simp)); (try simp (disch := omega) only [IntWalk.i64_in]); try with_reducible rfl)); simp only [Act.put, List.setIfInBounds_toArray, List.set_cons_zero, List.set_cons_succ]) | (refine qs_mid (v := ?_) (by rfl) ?_ ?_; rotate_left 1; (· (intro j w' hj1 hj2 hS; go_simp; (try (simp only [↓IntWalk.iteOmega]; go_simp)); (try simp (disch := omega) only [IntWalk.i64_in]); try with_reducible rfl)); simp only [Act.put, List.setIfInBounds_toArray, List.set_cons_zero, List.set_cons_succ]) | (refine qs_skip (by rfl) ?_; simp only [Act.put, List.setIfInBounds_toArray, List.set_cons_zero, List.set_cons_succ])))
          refine qs_act ?_
          go_wp2_with ((with_reducible show wpList _ _ _ (_ :: _) _ _); refine wpl_mestore rfl 141 (.tmp 33) (.tmp 41) (.tmp 39) rfl (m0 + x.ref) rfl rfl rfl ST.out ?_; intro w4 hm hg; have M4 := Lib.hid hm; have G4 := Lib.hid hg; clear hm hg)
          refine ⟨fun h => absurd h (by omega), ?_⟩
          refine qs_nil ?_
          go_wp2_with fail
          go_roundg (gk - 1)
          case measure => omega
          case rel =>
            refine ⟨i + 1, by congr 1, by omega, by omega, by omega, ?_, bl_g L3.out G4.out (Nat.le_refl _)⟩
            rw [HTk.out, sumF_snoc]
            unfold addS
            rw [← HM0.out]
            exact M4.out
        · have hiI : ¬ (i : Int) < (m : Int) := by omega
          have hall := Lib.hid (show (posL r).take i = posL r from List.take_of_length_le (by unfold posL; rw [List.length_map, HL2.out]; omega))
          have HSn := Lib.hid (show (sumF (negL l ++ (posL r).take i)).length ≤ 100000000 by have := (B2.out i).1; omega)
          go_wp2_with (go_at_call 95; refine (row_any M.out HSn.out).mono ?_; rintro e w2 ⟨v, rfl, ho, hb⟩; have O := Lib.hid ho; have L2 := Lib.hid hb; clear ho hb)
          go_ret
          have ho := O.out
          rw [hall.out] at ho
          exact ⟨_, rfl, own_loR ho LB.out.size, below_chain LB.out L2.out⟩
end Go.Proofs.YtgjjdfhoakailaaGreat
