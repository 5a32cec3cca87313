/-
  refs: Count, Delta: walked.
-/
import Derived.Test.YtgjjdfhoakailaaGreatStC1
import Derived.Test.YtgjjdfhoakailaaGreatStMapE
namespace Go.Proofs.YtgjjdfhoakailaaGreat
open Go.RowKit Go.Maps Go.Sort Go.Shelf
set_option linter.unusedVariables false
set_option linter.unusedSimpArgs false

def valF (S : SuM) (K : Key) : Int := (aget S K).getD 0
def addS (S : SuM) (K : Key) (d : Int) : SuM := aput S K (valF S K + d)
def sumF (l : SuM) : SuM := l.foldl (fun S p => addS S p.1 p.2) []
theorem sumF_snoc (l : SuM) (p : Key × Int) : sumF (l ++ [p]) = addS (sumF l) p.1 p.2 := by simp [sumF, List.foldl_append]
theorem valF_add (S : SuM) (K L : Key) (d : Int) : valF (addS S K d) L = if K = L then valF S K + d else valF S L := by
  unfold valF addS
  rw [aget_put]
  split <;> rfl
theorem addS_len (S : SuM) (K : Key) (d : Int) : (addS S K d).length ≤ S.length + 1 := by
  unfold addS aput
  rw [List.length_cons]
  have := adel_le S K
  omega
theorem foldS_facts (B : Nat) : ∀ (l S : SuM) (n : Nat), S.length ≤ n → (∀ K, -(B * n : Int) ≤ valF S K ∧ valF S K ≤ (B * n : Int)) → (∀ p ∈ l, -(B : Int) ≤ p.2 ∧ p.2 ≤ (B : Int)) →
    (l.foldl (fun S p => addS S p.1 p.2) S).length ≤ n + l.length ∧ ∀ K, -(B * (n + l.length : Nat) : Int) ≤ valF (l.foldl (fun S p => addS S p.1 p.2) S) K ∧ valF (l.foldl (fun S p => addS S p.1 p.2) S) K ≤ (B * (n + l.length : Nat) : Int)
  | [], S, n, h1, h2, _ => ⟨by simpa using h1, by simpa using h2⟩
  | p :: l, S, n, h1, h2, h3 => by
    have hp := h3 p (by simp)
    have := foldS_facts B l (addS S p.1 p.2) (n + 1) (by have := addS_len S p.1 p.2; omega) (fun K => by
      rw [valF_add]
      have h4 := h2 K
      have h5 := h2 p.1
      have e : (B * (n + 1 : Nat) : Int) = B * n + B := by push_cast; rw [Int.mul_add, Int.mul_one]
      rw [e]
      split <;> omega) (fun q hq => h3 q (by simp [hq]))
    rw [List.foldl_cons, List.length_cons, show n + (l.length + 1) = n + 1 + l.length by omega]
    exact this
theorem sumF_facts (B : Nat) (l : SuM) (h : ∀ p ∈ l, -(B : Int) ≤ p.2 ∧ p.2 ≤ (B : Int)) : (sumF l).length ≤ l.length ∧ ∀ K, -(B * l.length : Int) ≤ valF (sumF l) K ∧ valF (sumF l) K ≤ (B * l.length : Int) := by
  have := foldS_facts B l [] 0 (Nat.le_refl _) (fun K => by simp [valF, aget]) h
  rw [Nat.zero_add] at this
  exact this
section
variable {b : Nat} {l : List Oper} {Q : Exit → Act → World → Prop} {S : Nat → World → Prop}
theorem qs_sum {o : Oper} {r : List (Oper × Option Nat)} {k m : Nat} {a : Act} {w : World} (hw : Region.wanted o (yielded l.toArray a.tmps) = true) (t : TypeId) (mm x : Operand) (ho : o.op = .lookup t mm x false) (ht : Tryz.prog.underlying t = some (.map 50 3))
    (hm : a.eval mm = .map (some b)) (X : Key) (hx : a.eval x = vKey X) (n : Int) (hS : ∀ j w, k ≤ j → j ≤ m → S j w → ∃ M : SuM, MapIs Tryz.prog 50 vKey klK (Value.int .i64) w b M ∧ valF M X = n)
    (h : wpQs Tryz.prog l Q S r k (a.put o.dst (.int .i64 n)) w) : wpQs Tryz.prog l Q S ((o, some m) :: r) k a w :=
  ⟨_, .inl ⟨hw, fun w' ⟨j, h1, h2, h3⟩ => by
    obtain ⟨M, hM, hn⟩ := hS j w' h1 h2 h3
    have hrun := hM.look keyed_key ht (Tryz.zeroValue3 w') (klK_inj' X) (keyOf_key X)
    have e : ((aget M X).map (Value.int .i64)).getD (.int .i64 0) = .int .i64 n := by
      rw [← hn]
      unfold valF
      cases aget M X <;> rfl
    rw [e] at hrun
    unfold execOp
    simp only [ho, hm, hx, Sem.run_bind, hrun, Result.andThen_ok, Sem.run_pure]⟩, h⟩
end
/-- A slice of structs that is read: where an element lies. -/
theorem src_part {α : Type} {enc : α → List Value} {sz : Nat} (hk : ∀ x, (enc x).length = sz) {w : World} {A : Option Addr} {n c : Nat} {l : List α} (h : Src w sz (.slice A n c) n (l.flatMap enc)) (hl : l.length = n) {j : Nat} (hj : j < l.length) :
    ∃ b off, A = some ⟨b, off, none⟩ ∧ w.rangeAt b (off + j * sz) (enc (l[j]'hj)) := by
  obtain ⟨A', c', e, hlen, hc⟩ := h
  injection e with e1 e2 e3
  subst e1
  obtain ⟨b, off, e, hlt, hcell⟩ := hc (by omega)
  refine ⟨b, off, e, fun i v hi => ?_⟩
  rw [Nat.add_assoc]
  refine hcell (j * sz + i) v ?_
  have key : ∀ (l : List α) (q : Nat) (hq : q < l.length) (i : Nat), i < sz → (l.flatMap enc)[q * sz + i]? = (enc (l[q]'hq))[i]? := by
    intro l
    induction l with
    | nil => intro q hq; simp at hq
    | cons x l ih =>
      intro q hq i hi
      rw [List.flatMap_cons]
      rcases q with _ | q
      · rw [Nat.zero_mul, Nat.zero_add, List.getElem?_append_left (by rw [hk]; exact hi)]; rfl
      · rw [List.getElem?_append_right (by rw [hk, Nat.succ_mul]; omega), hk]
        have := ih q (by simpa using hq) i hi
        rw [show (q + 1) * sz + i - sz = q * sz + i by rw [Nat.succ_mul]; omega, this]
        rfl
  rw [key l j hj i (by
    rcases Nat.lt_or_ge i sz with h | h
    · exact h
    · rw [List.getElem?_eq_none (by rw [hk]; exact h)] at hi; cases hi)]
  exact hi
def cntL (l : List It) : SuM := (l.filter (fun i => i.kind == 2)).map (fun i => (i.sl.key, 1))
/-- How many slices have each key. -/
def countC (l : List It) : List Cn := rowC (sumF (cntL l))
theorem cntL_take {l : List It} {j : Nat} (hj : j < l.length) : cntL (l.take (j + 1)) = cntL (l.take j) ++ (if (l[j]'hj).kind == 2 then [((l[j]'hj).sl.key, 1)] else []) := by
  unfold cntL
  rw [List.take_succ_eq_append_getElem hj, List.filter_append, List.map_append]
  congr 1
  cases hk : (l[j]'hj).kind == 2 <;> simp [hk]
theorem cntL_len (l : List It) : (cntL l).length ≤ l.length := by unfold cntL; rw [List.length_map]; exact List.length_filter_le _ _
theorem cntL_one (l : List It) : ∀ p ∈ cntL l, -((1 : Nat) : Int) ≤ p.2 ∧ p.2 ≤ ((1 : Nat) : Int) := by
  intro p hp
  obtain ⟨i, _, rfl⟩ := List.mem_map.1 hp
  simp
def CtI (w : World) (l : List It) (n : Nat) (k : Nat) (iv : Value) (wr : World) : Prop :=
  ∃ i : Nat, iv = .int .i64 (i : Int) ∧ i ≤ n ∧ i + k ≤ n ∧ n ≤ i + k ∧ MapIs Tryz.prog 50 vKey klK (Value.int .i64) wr w.heap.size (sumF (cntL (l.take i))) ∧ Below w.heap.size w wr
def CnPost (L : List Cn) (w : World) (e : Ending) (w' : World) : Prop := ∃ v, e = .returned v ∧ w'.ownsRow w.heap.size 89 33 v L.length (cnsC L) ∧ Below w.heap.size w w'
theorem itC_slkey (i : It) : ((itC i).drop 39).take (keyL i.sl.key).length = keyL i.sl.key := by
  have e : itC i = (.int .u8 i.kind :: (keyL i.key ++ (plC i.pl ++ [.int .i64 i.snap, .int .i64 i.unit]))) ++ (keyL i.sl.key ++ [.int .i64 i.sl.off, .int .i64 i.sl.mask]) := by simp [itC, slC]
  rw [e, List.drop_left' (by simp [keyL_len, plC_len]), List.take_left]
theorem itC_kind (i : It) : (itC i)[0]? = some (.int .u8 i.kind) := rfl
set_option maxRecDepth 100000 in
set_option maxHeartbeats 2000000 in
theorem count_any {w : World} {A : Option Addr} {n c : Nat} {l : List It} (h : Src w 73 (.slice A n c) n (itsC l)) (hl : l.length = n) (hn : n ≤ 100000000) : Calls Tryz.prog 47 #[.slice A n c] w (CnPost (countC l) w) := by
  have H := Lib.hid h
  have HL := Lib.hid hl
  clear h hl
  have hmm := @run_makeMap Tryz.prog
  go_enter Tryz.func47, Tryz.ntmps47
  go_wp2_with fail
  obtain ⟨w1, hw1⟩ : ∃ w1, w1 = w.alloc (Obj.map #[] 0) := ⟨_, rfl⟩
  have M1 := Lib.hid (show MapIs Tryz.prog 50 vKey klK (Value.int .i64) w1 w.heap.size ([] : SuM) by rw [hw1]; exact MapIs.made w _ _ _ _ _)
  have L1 := Lib.hid (show Below w.heap.size w w1 by rw [hw1]; exact (Below.refl _ _).alloc (Nat.le_refl _) _)
  rw [← hw1]
  clear hw1 hmm
  go_loopg [9] n (fun k iv wr => CtI w l n k iv wr)
  case atStart => exact ⟨0, rfl, by omega, by omega, by omega, M1.out, L1.out⟩
  case round =>
    obtain ⟨i, rfl, i1, i2, i3, hm, hb⟩ := hrel
    have M := Lib.hid hm
    have LB := Lib.hid hb
    clear hm hb M1 L1
    by_cases hi : i < n
    · have hiI : (i : Int) < (n : Int) := by omega
      have hil : i < l.length := by rw [HL.out]; exact hi
      obtain ⟨b, off, hA, hr⟩ := src_part itC_len (H.out.below LB.out) HL.out hil
      have HTk := Lib.hid (cntL_take hil)
      generalize l[i] = x at hr HTk
      subst hA
      have Rg := Lib.hid hr
      clear hr hil
      go_upto_region 5 with (first
        | ((with_reducible show wpList _ _ _ (_ :: _) _ _); refine wpl_sidx rfl 41 (.tmp 7) (.tmp 9) rfl Tryz.underlying41 Tryz.sizeOf56 b off n c i rfl rfl hi ?_)
        | ((with_reducible show wpList _ _ _ (_ :: _) _ _); refine wpList_load_mid rfl 56 (.tmp 11) rfl b (off + i * 73) rfl (itC x) _ Rg.out Tryz.underlying56 rfl (itC_info x) ?_)
        | ((with_reducible show wpList _ _ _ (_ :: _) _ _); refine wpl_alloc rfl 56 rfl Tryz.zeroValue56 73 zero_It_len ?_; intro wa cs hk hc hg hz; have K := Lib.hid hk; have C := Lib.hid hc; have G := Lib.hid hg; clear hk hc hg hz)
        | ((with_reducible show wpList _ _ _ (_ :: _) _ _); refine wpl_over rfl 56 (.tmp 5) (.tmp 12) rfl wr.heap.size (itC x) rfl rfl _ cs K.out (itC_info x) (by rw [itC_len, C.out]) (itC_one x) ?_; intro wb hk hg hz; have K2 := Lib.hid hk; have L2 := Lib.hid (bl_g (bl_n (Below.refl _ _) G.out) hg (Nat.le_refl _)); clear hk hg hz))
      have M2 := Lib.hid (M.out.below L2.out M.out.lt)
      have LB2 := Lib.hid (below_chain LB.out L2.out)
      have ck := K2.out.cell (i := 0) (by rw [List.getElem?_toArray]; exact itC_kind x)
      have Q := Lib.hid (K2.out.part 39 (keyL x.sl.key) (itC_slkey x))
      by_cases hk : x.kind = 2
      · have hk2 : (x.kind == 2) = true := beq_iff_eq.2 hk
        have HTk2 := Lib.hid (show cntL (l.take (i + 1)) = cntL (l.take i) ++ [(x.sl.key, 1)] by rw [HTk.out, hk2]; rfl)
        have HF := Lib.hid (sumF_facts 1 (cntL (l.take i)) (cntL_one _))
        have hlen : (cntL (l.take i)).length ≤ i := by have := cntL_len (l.take i); rw [List.length_take] at this; omega
        have HN := Lib.hid (show (sumF (cntL (l.take i))).length < maxLen by have := HF.out.1; unfold maxLen; omega)
        obtain ⟨m0, hm0⟩ : ∃ m, m = valF (sumF (cntL (l.take i))) x.sl.key := ⟨_, rfl⟩
        have hmb : -100000000 ≤ m0 ∧ m0 ≤ 100000000 := by have := HF.out.2 x.sl.key; rw [hm0]; omega
        obtain ⟨hmb1, hmb2⟩ := hmb
        have HM0 := Lib.hid hm0
        clear hk hlen hm0
        go_wp2_with fail
        refine wp_region_qs (fun j0 w' => j0 ≤ 1 → (∃ M : SuM, MapIs Tryz.prog 50 vKey klK (Value.int .i64) w' w.heap.size M ∧ valF M x.sl.key = m0) ∧ w'.rangeAt wr.heap.size 39 (keyL x.sl.key)) [(0, some 0), (1, some 0), (2, some 0), (3, some 0), (4, some 1), (5, some 1), (6, none), (7, some 1), (8, none)] (by kernel_rfl) (by kernel_rfl) (by kernel_rfl) (by kernel_rfl) (by kernel_rfl) (fun _ _ _ _ _ h => h) (fun _ => ⟨⟨_, M2.out.drew, HM0.out.symm⟩, Q.out⟩) ?_
        simp only [List.map_cons, List.map_nil, List.getD_cons_succ, List.getD_cons_zero]
        (repeat (first | ((first | (refine qs_row (by rfl) 50 (.tmp 18) rfl wr.heap.size 39 rfl (keyL x.sl.key) _ (fun j w' _ h2 h => (h (by omega)).2) Tryz.underlying50 rfl (keyL_info _) ?_) | (refine qs_sum (by rfl) 141 (.tmp 16) (.tmp 19) rfl Tryz.underlying141 rfl x.sl.key rfl m0 (fun j w' _ h2 h => (h (by omega)).1) ?_)); simp only [Act.put, List.setIfInBounds_toArray, List.set_cons_zero, List.set_cons_succ]) | (refine qs_now (v := ?_) (by rfl) ?_ ?_; rotate_left 1; (· (intro w' hS; go_simp; (try (simp only [↓IntWalk.iteOmega]; go_simp)); (try simp (disch := omega) only [IntWalk.i64_in]); try with_reducible rfl)); simp only [Act.put, List.setIfInBounds_toArray, List.set_cons_zero, List.set_cons_succ]) | (refine qs_run (v := ?_) (by rfl) ?_ ?_; rotate_left 1; (· (intro j w' hS; go_simp; (try (simp only [↓IntWalk.iteOmega]; go_simp)); (try simp (disch := omega) only [IntWalk.i64_in]); try with_reducible rfl)); simp only [Act.put, List.setIfInBounds_toArray, List.set_cons_zero, List.set_cons_succ]) | (refine qs_mid (v := ?_) (by rfl) ?_ ?_; rotate_left 1; (· (intro j w' hj1 hj2 hS; go_simp; (try (simp only [↓IntWalk.iteOmega]; go_simp)); (try simp (disch := omega) only [IntWalk.i64_in]); try with_reducible rfl)); simp only [Act.put, List.setIfInBounds_toArray, List.set_cons_zero, List.set_cons_succ]) | (refine qs_skip (by rfl) ?_; simp only [Act.put, List.setIfInBounds_toArray, List.set_cons_zero, List.set_cons_succ])))
        refine qs_act ?_
        go_wp2_with ((with_reducible show wpList _ _ _ (_ :: _) _ _); refine wpl_mentry2 rfl 141 (.tmp 16) (.tmp 19) rfl keyed_key keyLaw_key Tryz.underlying141 M2.out.drew HN.out rfl x.sl.key rfl Tryz.zeroValue3 (klK_inj' _) (keyOf_key _) 0 rfl ?_; intro v0 st w3 hg hm hst; have G3 := Lib.hid hg; have M3 := Lib.hid hm; have ST := Lib.hid hst; clear hg hm hst)
        have hne := blk_ne_map M2.out K2.out
        have K3 := Lib.hid (K2.out.drew.grown G3.out (by simp; exact hne))
        have L3 := Lib.hid (show Below w.heap.size w w3 from bl_g LB2.out.drew G3.out (Nat.le_refl _))
        have hv : valF (aput (sumF (cntL (l.take i))) x.sl.key ((aget (sumF (cntL (l.take i))) x.sl.key).getD 0)) x.sl.key = m0 := by
          unfold valF
          rw [aget_put, if_pos rfl]
          exact HM0.out.symm
        have HV := Lib.hid hv
        clear hv hne
        refine ⟨fun _ => ⟨⟨_, M3.out, HV.out⟩, K3.out.part 39 (keyL x.sl.key) (itC_slkey x)⟩, ?_⟩
        (repeat (first | ((first | (refine qs_row (by rfl) 50 (.tmp 18) rfl wr.heap.size 39 rfl (keyL x.sl.key) _ (fun j w' _ h2 h => (h (by omega)).2) Tryz.underlying50 rfl (keyL_info _) ?_) | (refine qs_sum (by rfl) 141 (.tmp 16) (.tmp 19) rfl Tryz.underlying141 rfl x.sl.key rfl m0 (fun j w' _ h2 h => (h (by omega)).1) ?_)); simp only [Act.put, List.setIfInBounds_toArray, List.set_cons_zero, List.set_cons_succ]) | (refine qs_now (v := ?_) (by rfl) ?_ ?_; rotate_left 1; (· (intro w' hS; go_simp; (try (simp only [↓IntWalk.iteOmega]; go_simp)); (try simp (disch := omega) only [IntWalk.i64_in]); try with_reducible rfl)); simp only [Act.put, List.setIfInBounds_toArray, List.set_cons_zero, List.set_cons_succ]) | (refine qs_run (v := ?_) (by rfl) ?_ ?_; rotate_left 1; (· (intro j w' hS; go_simp; (try (simp only [↓IntWalk.iteOmega]; go_simp)); (try simp (disch := omega) only [IntWalk.i64_in]); try with_reducible rfl)); simp only [Act.put, List.setIfInBounds_toArray, List.set_cons_zero, List.set_cons_succ]) | (refine qs_mid (v := ?_) (by rfl) ?_ ?_; rotate_left 1; (· (intro j w' hj1 hj2 hS; go_simp; (try (simp only [↓IntWalk.iteOmega]; go_simp)); (try simp (disch := omega) only [IntWalk.i64_in]); try with_reducible rfl)); simp only [Act.put, List.setIfInBounds_toArray, List.set_cons_zero, List.set_cons_succ]) | (refine qs_skip (by rfl) ?_; simp only [Act.put, List.setIfInBounds_toArray, List.set_cons_zero, List.set_cons_succ])))
        refine qs_act ?_
        go_wp2_with ((with_reducible show wpList _ _ _ (_ :: _) _ _); refine wpl_mestore rfl 141 (.tmp 16) (.tmp 23) (.tmp 21) rfl (m0 + 1) rfl rfl rfl ST.out ?_; intro w4 hm hg; have M4 := Lib.hid hm; have G4 := Lib.hid hg; clear hm hg)
        refine ⟨fun h => absurd h (by omega), ?_⟩
        refine qs_nil ?_
        go_wp2_with fail
        go_roundg (gk - 1)
        case measure => omega
        case rel =>
          refine ⟨i + 1, by congr 1, by omega, by omega, by omega, ?_, bl_g L3.out G4.out (Nat.le_refl _)⟩
          rw [HTk2.out, sumF_snoc]
          unfold addS
          rw [← HM0.out]
          exact M4.out
      · have hk2 : (x.kind == 2) = false := beq_eq_false_iff_ne.2 hk
        have HTk2 := Lib.hid (show cntL (l.take (i + 1)) = cntL (l.take i) by rw [HTk.out, hk2]; simp)
        clear hk
        go_wp2_with fail
        go_roundg (gk - 1)
        case measure => omega
        case rel => exact ⟨i + 1, by congr 1, by omega, by omega, by omega, by rw [HTk2.out]; exact M2.out, LB2.out⟩
    · have hiI : ¬ (i : Int) < (n : Int) := by omega
      have hall := Lib.hid (show l.take i = l from List.take_of_length_le (by rw [HL.out]; omega))
      have HF := Lib.hid (sumF_facts 1 (cntL (l.take i)) (cntL_one _))
      have HSn := Lib.hid (show (sumF (cntL (l.take i))).length ≤ 100000000 by
        have := HF.out.1
        have := cntL_len (l.take i)
        rw [List.length_take] at this
        omega)
      go_wp2_with (go_at_call 95; refine (row_any M.out HSn.out).mono ?_; rintro e w2 ⟨v, rfl, ho, hb⟩; have O := Lib.hid ho; have L2 := Lib.hid hb; clear ho hb)
      go_ret
      have ho := O.out
      rw [hall.out] at ho
      exact ⟨_, rfl, own_loR ho LB.out.size, below_chain LB.out L2.out⟩
end Go.Proofs.YtgjjdfhoakailaaGreat
