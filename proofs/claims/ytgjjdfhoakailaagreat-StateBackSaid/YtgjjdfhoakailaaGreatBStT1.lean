/-
  what this claim needs of: StT1, StT2 (written by cut.py).
-/
import Derived.Test.YtgjjdfhoakailaaGreatBStE1
import Derived.Test.YtgjjdfhoakailaaGreatBStP6
namespace Go.Proofs.YtgjjdfhoakailaaGreat
open Go.RowKit Go.Maps Go.Sort Go.Shelf
set_option linter.unusedVariables false
set_option linter.unusedSimpArgs false

structure Th where
  kind : Int
  key : Key
  snap : Int
  unit : Int
instance : DecidableEq Th := fun a b => decidable_of_iff ((a.kind, a.key, a.snap, a.unit) = (b.kind, b.key, b.snap, b.unit)) (by cases a; cases b; simp)
def ThOk (t : Th) : Prop := (0 ≤ t.kind ∧ t.kind < 256) ∧ i64B t.snap ∧ i64B t.unit
instance (t : Th) : Decidable (ThOk t) := by unfold ThOk i64B; infer_instance
abbrev ThB := {t : Th // ThOk t}
def thC (t : Th) : List Value := .int .u8 t.kind :: (keyL t.key ++ [.int .i64 t.snap, .int .i64 t.unit])
theorem thC_len (t : Th) : (thC t).length = 35 := by simp [thC, keyL_len]
theorem thC_inj {s t : Th} (h : thC s = thC t) : s = t := by
  unfold thC at h
  simp only [List.cons.injEq, Value.int.injEq, true_and] at h
  obtain ⟨h0, h⟩ := h
  obtain ⟨h1, h⟩ := List.append_inj h (by simp [keyL_len])
  have e1 := keyL_inj h1
  cases s; cases t
  simp at h0 h e1 ⊢
  exact ⟨h0, e1, h.1, h.2⟩
theorem thC_one (t : Th) : ∀ v ∈ thC t, v.oneCell' = true := by
  intro v hv
  unfold thC at hv
  simp only [List.mem_cons, List.mem_append, List.not_mem_nil, or_false] at hv
  rcases hv with rfl | h | rfl | rfl
  · rfl
  · exact keyL_one _ v h
  · rfl
  · rfl
def litsTh (t : Th) : List Lit := .int .u8 t.kind :: (litsK t.key ++ [.int .i64 t.snap, .int .i64 t.unit])
def vTh (t : ThB) : Value := .agg (thC t.1).toArray
def klTh (t : ThB) : Lit := .string (keyBytes (litsTh t.1))
theorem th_litsOf (d : Nat) {t : Th} (h : ThOk t) : Tryz.prog.keyLits (d + 3) 149 (thC t) = some (litsTh t) := by
  have c0 : Tryz.prog.cellsOf 48 = 1 := by kernel_rfl
  have c1 : Tryz.prog.cellsOf 3 = 1 := by kernel_rfl
  have ct : Tryz.prog.cellsOf 149 = 35 := by kernel_rfl
  have s1 : (thC t).drop 1 = keyL t.key ++ [.int .i64 t.snap, .int .i64 t.unit] := rfl
  have s33 : (thC t).drop 33 = [.int .i64 t.snap, .int .i64 t.unit] := by
    rw [show 33 = 1 + 32 from rfl, ← List.drop_drop, s1, List.drop_left' (keyL_len _)]
  have s34 : (thC t).drop 34 = [.int .i64 t.unit] := by
    rw [show 34 = 33 + 1 from rfl, ← List.drop_drop, s33]
    rfl
  have q0 : ((thC t).drop 0).take 1 = [.int .u8 t.kind] := rfl
  have q1 : ((thC t).drop 1).take 32 = keyL t.key := by rw [s1, List.take_left' (keyL_len _)]
  have q2 : ((thC t).drop 33).take 1 = [.int .i64 t.snap] := by rw [s33]; rfl
  have q3 : ((thC t).drop 34).take 1 = [.int .i64 t.unit] := by rw [s34]; rfl
  have e0 : Tryz.prog.keyLits (d + 2) 48 [Value.int .u8 t.kind] = some [Lit.int .u8 t.kind] := by
    unfold Program.keyLits
    rw [Tryz.underlying48]
    simp [u8_wf' h.1]
  have e1 := key_litsOf d t.key
  have e2 := i64_litsOf (d + 1) t.snap h.2.1
  have e3 := i64_litsOf (d + 1) t.unit h.2.2
  unfold Program.keyLits
  rw [Tryz.underlying149]
  simp only [ct, thC_len, c0, c1, key_cellsOf, List.mapM_cons, List.mapM_nil, q0, q1, q2, q3, e0, e1, e2, e3, true_and]
  rw [if_pos (by kernel_rfl)]
  simp [litsTh]
theorem th_type : Tryz.prog.keyType 149 = true := by kernel_rfl
theorem th_cellsOf : Tryz.prog.cellsOf 149 = 35 := by kernel_rfl
theorem keyOf_th (t : ThB) : keyOf Tryz.prog 149 (vTh t) = some (klTh t) := by
  obtain ⟨n, hn⟩ := types_two
  have hf : (vTh t).formed Tryz.prog 149 = true := by simp [vTh, Value.formed, Tryz.underlying149, th_cellsOf, thC_len]
  unfold keyOf
  rw [Tryz.underlying149]
  simp only [th_type, hf, Bool.and_self, if_true, hn]
  have : (vTh t).cells.toList = thC t.1 := by simp [vTh, Value.cells]
  rw [this, th_litsOf (n + 1) t.2]
  rfl
theorem keyed_th : Keyed Tryz.prog 149 := Keyed.of_law (deep_law_laid (m := 3) (by kernel_rfl) (by omega) (of_decide_eq_true (by kernel_rfl)) (by kernel_rfl) (by rw [Tryz.underlying149]))
theorem klTh_inj {s t : ThB} (h : klTh s = klTh t) : s = t := by
  have h1 := keyOf_th s
  rw [h] at h1
  have := keyed_th.inj h1 (keyOf_th t)
  have h2 : (thC s.1).toArray = (thC t.1).toArray := Value.agg.inj this
  exact Subtype.ext (thC_inj (by simpa using congrArg Array.toList h2))
theorem klTh_inj' {β : Type} {M : List (ThB × β)} (X : ThB) : ∀ p ∈ M, klTh p.1 = klTh X → p.1 = X := fun p _ h => klTh_inj h
/-- What an item stands for. -/
def standsI (i : It) : Th := if i.kind = 1 then ⟨i.kind, i.key, 0, 0⟩ else ⟨i.kind, zKey, i.snap, i.unit⟩
theorem stands_ok {i : It} (h : ItB i) : ThOk (standsI i) := by
  obtain ⟨h0, h1, h2, h3, h4⟩ := h
  unfold standsI
  split
  · exact ⟨h0, i64B_zero, i64B_zero⟩
  · exact ⟨h0, h2, h3⟩
theorem th_info (t : Th) : (Tryz.prog.info? 149).map (·.size) = some (thC t).length := by rw [thC_len]; kernel_rfl
theorem built_th (l : List (Nat × Value)) : Tryz.prog.built 149 l = Instr.fill ([(0, 1), (1, 32), (33, 1), (34, 1)].toArray[·]?) (thC ⟨0, zKey, 0, 0⟩).toArray l := by kernel_rfl
theorem pth_kind (t : Th) (k : Int) : putAt (thC t).toArray 0 [.int .u8 k] = (thC { t with kind := k }).toArray :=
  put_mid [] (keyL t.key ++ [.int .i64 t.snap, .int .i64 t.unit]) [.int .u8 t.kind] _ 0 rfl rfl rfl rfl
theorem pth_key (t : Th) (K : Key) : putAt (thC t).toArray 1 (keyL K) = (thC { t with key := K }).toArray :=
  put_mid [.int .u8 t.kind] [.int .i64 t.snap, .int .i64 t.unit] (keyL t.key) _ 1 rfl rfl rfl (by rw [keyL_len, keyL_len])
theorem pth_snap (t : Th) (s : Int) : putAt (thC t).toArray 33 [.int .i64 s] = (thC { t with snap := s }).toArray :=
  put_mid (.int .u8 t.kind :: keyL t.key) [.int .i64 t.unit] [.int .i64 t.snap] _ 33 (by simp [thC]) (by simp [thC]) (by simp [keyL_len]) rfl
theorem pth_unit (t : Th) (s : Int) : putAt (thC t).toArray 34 [.int .i64 s] = (thC { t with unit := s }).toArray :=
  put_mid (.int .u8 t.kind :: (keyL t.key ++ [.int .i64 t.snap])) [] [.int .i64 t.unit] _ 34 (by simp [thC]) (by simp [thC]) (by simp [keyL_len]) rfl
theorem built_th1 (k : Int) (K : Key) : Tryz.prog.built 149 [(0, .int .u8 k), (1, .agg (keyL K).toArray)] = some (thC ⟨k, K, 0, 0⟩).toArray := by
  rw [built_th, fill_cons 0 [.int .u8 k] rfl rfl (by simp [thC_len]), pth_kind, fill_cons 1 (keyL K) (by simp [Value.cells]) (by rw [keyL_len]; rfl) (by simp [thC_len, keyL_len]), pth_key]
  rfl
theorem built_th2 (k s u : Int) : Tryz.prog.built 149 [(0, .int .u8 k), (2, .int .i64 s), (3, .int .i64 u)] = some (thC ⟨k, zKey, s, u⟩).toArray := by
  rw [built_th, fill_cons 0 [.int .u8 k] rfl rfl (by simp [thC_len]), pth_kind, fill_cons 33 [.int .i64 s] rfl rfl (by simp [thC_len]), pth_snap, fill_cons 34 [.int .i64 u] rfl rfl (by simp [thC_len]), pth_unit]
  rfl
theorem built_th3 (k s : Int) : Tryz.prog.built 149 [(0, .int .u8 k), (2, .int .i64 s)] = some (thC ⟨k, zKey, s, 0⟩).toArray := by
  rw [built_th, fill_cons 0 [.int .u8 k] rfl rfl (by simp [thC_len]), pth_kind, fill_cons 33 [.int .i64 s] rfl rfl (by simp [thC_len]), pth_snap]
  rfl
def StdPost (i : It) (w : World) (e : Ending) (w' : World) : Prop := e = .returned (.agg (thC (standsI i)).toArray) ∧ Below w.heap.size w w'
set_option maxRecDepth 100000 in
set_option maxHeartbeats 1000000 in
theorem stands_any {w : World} (i : It) : Calls Tryz.prog 101 #[.agg (itC i).toArray] w (StdPost i w) := by
  by_cases hk : i.kind = 1
  · have HK := Lib.hid hk
    have b1 : (i.kind == 1) = true := beq_iff_eq.2 hk
    clear hk
    go_enter Tryz.func101, Tryz.ntmps101
    go_upto_region 1 with (first
      | ((with_reducible show wpList _ _ _ (_ :: _) _ _); refine wpl_box rfl 56 (.tmp 0) (by rfl) _ (by rfl) ?_; intro w1 hk hg hz; have K1 := Lib.hid hk; have L1 := Lib.hid (bl_n (Below.refl _ w) hg); clear hk hg hz; simp only [Act.put, List.setIfInBounds_toArray, List.set_cons_zero, List.set_cons_succ])
      | ((with_reducible show wpList _ _ _ (_ :: _) _ _); refine wpl_alloc rfl 149 (by rfl) Tryz.zeroValue149 35 (by kernel_rfl) ?_; intro w2 cs hk hc hg hz; have K2 := Lib.hid hk; have D2 := Lib.hid hc; have L2 := Lib.hid (bl_n (Below.refl _ w1) hg); clear hk hc hg hz; simp only [Act.put, List.setIfInBounds_toArray, List.set_cons_zero, List.set_cons_succ]))
    have I2 := Lib.hid (K1.out.below L2.out K1.out.lt)
    have c0 := itC_cell I2.out (j := 0) (v := .int .u8 i.kind) rfl
    have c1 := itC_cell I2.out (it_snap i)
    have c2 := itC_cell I2.out (it_unit i)
    have RK := Lib.hid (I2.out.part 1 _ (it_key i))
    go_wp2_with (first
      | ((with_reducible show wpList _ _ _ (_ :: _) _ _); refine wpList_load_mid rfl 50 (.tmp 8) (by rfl) w.heap.size 1 (by rfl) (keyL i.key) _ RK.out Tryz.underlying50 rfl (keyL_info _) ?_; simp only [Act.put, List.setIfInBounds_toArray, List.set_cons_zero, List.set_cons_succ])
      | ((with_reducible show wpList _ _ _ (_ :: _) _ _); refine wpl_mk rfl 149 #[(0, .tmp 7), (1, .tmp 9)] (by rfl) [(0, .int .u8 i.kind), (1, .agg (keyL i.key).toArray)] (by rfl) _ (built_th1 i.kind i.key) ?_; simp only [Act.put, List.setIfInBounds_toArray, List.set_cons_zero, List.set_cons_succ])
      | ((with_reducible show wpList _ _ _ (_ :: _) _ _); refine wpl_over rfl 149 (.tmp 2) (.tmp 10) (by rfl) w1.heap.size (thC ⟨i.kind, i.key, 0, 0⟩) (by rfl) (by rfl) _ cs K2.out (th_info _) (by rw [thC_len, D2.out]) (thC_one _) ?_; intro w3 hk hg hz; have K3 := Lib.hid hk; have L3 := Lib.hid (bl_g L2.out hg (Nat.le_refl _)); clear hk hg hz; simp only [Act.put, List.setIfInBounds_toArray, List.set_cons_zero, List.set_cons_succ]))
    refine bodyPost_ret (results_blk rfl _ w1.heap.size rfl _ _ K3.out _ Tryz.underlying149 rfl 35 (by kernel_rfl) (by simp [thC_len])) rfl ?_
    exact ⟨by unfold standsI; rw [if_pos HK.out], below_chain L1.out L3.out⟩
  · have HK := Lib.hid hk
    have b1 : (i.kind == 1) = false := beq_eq_false_iff_ne.2 hk
    clear hk
    go_enter Tryz.func101, Tryz.ntmps101
    go_upto_region 1 with (first
      | ((with_reducible show wpList _ _ _ (_ :: _) _ _); refine wpl_box rfl 56 (.tmp 0) (by rfl) _ (by rfl) ?_; intro w1 hk hg hz; have K1 := Lib.hid hk; have L1 := Lib.hid (bl_n (Below.refl _ w) hg); clear hk hg hz; simp only [Act.put, List.setIfInBounds_toArray, List.set_cons_zero, List.set_cons_succ])
      | ((with_reducible show wpList _ _ _ (_ :: _) _ _); refine wpl_alloc rfl 149 (by rfl) Tryz.zeroValue149 35 (by kernel_rfl) ?_; intro w2 cs hk hc hg hz; have K2 := Lib.hid hk; have D2 := Lib.hid hc; have L2 := Lib.hid (bl_n (Below.refl _ w1) hg); clear hk hc hg hz; simp only [Act.put, List.setIfInBounds_toArray, List.set_cons_zero, List.set_cons_succ]))
    have I2 := Lib.hid (K1.out.below L2.out K1.out.lt)
    have c0 := itC_cell I2.out (j := 0) (v := .int .u8 i.kind) rfl
    have c1 := itC_cell I2.out (it_snap i)
    have c2 := itC_cell I2.out (it_unit i)
    have RK := Lib.hid (I2.out.part 1 _ (it_key i))
    go_wp2_with (first
      | ((with_reducible show wpList _ _ _ (_ :: _) _ _); refine wpl_mk rfl 149 #[(0, .tmp 12), (2, .tmp 14), (3, .tmp 16)] (by rfl) [(0, .int .u8 i.kind), (2, .int .i64 i.snap), (3, .int .i64 i.unit)] (by rfl) _ (built_th2 i.kind i.snap i.unit) ?_; simp only [Act.put, List.setIfInBounds_toArray, List.set_cons_zero, List.set_cons_succ])
      | ((with_reducible show wpList _ _ _ (_ :: _) _ _); refine wpl_over rfl 149 (.tmp 2) (.tmp 17) (by rfl) w1.heap.size (thC ⟨i.kind, zKey, i.snap, i.unit⟩) (by rfl) (by rfl) _ cs K2.out (th_info _) (by rw [thC_len, D2.out]) (thC_one _) ?_; intro w3 hk hg hz; have K3 := Lib.hid hk; have L3 := Lib.hid (bl_g L2.out hg (Nat.le_refl _)); clear hk hg hz; simp only [Act.put, List.setIfInBounds_toArray, List.set_cons_zero, List.set_cons_succ]))
    refine bodyPost_ret (results_blk rfl _ w1.heap.size rfl _ _ K3.out _ Tryz.underlying149 rfl 35 (by kernel_rfl) (by simp [thC_len])) rfl ?_
    exact ⟨by unfold standsI; rw [if_neg HK.out], below_chain L1.out L3.out⟩
end Go.Proofs.YtgjjdfhoakailaaGreat
namespace Go.Proofs.YtgjjdfhoakailaaGreat
open Go.RowKit Go.Maps Go.Sort Go.Shelf
set_option linter.unusedVariables false
set_option linter.unusedSimpArgs false

def zIt : It := ⟨0, zKey, zPl, 0, 0, zSl⟩
theorem thz_ok : ThOk ⟨0, zKey, 0, 0⟩ := ⟨by simp, i64B_zero, i64B_zero⟩
def mkTh (t : Th) : ThB := if h : ThOk t then ⟨t, h⟩ else ⟨⟨0, zKey, 0, 0⟩, thz_ok⟩
theorem mkTh_val {t : Th} (h : ThOk t) : (mkTh t).1 = t := by unfold mkTh; rw [dif_pos h]
theorem vTh_mk {t : Th} (h : ThOk t) : vTh (mkTh t) = .agg (thC t).toArray := by unfold vTh; rw [mkTh_val h]
theorem mkTh_inj {s t : Th} (hs : ThOk s) (ht : ThOk t) (h : mkTh s = mkTh t) : s = t := by rw [← mkTh_val hs, ← mkTh_val ht, h]
def stT (i : It) : ThB := mkTh (standsI i)
def thE (K : Key) : ThB := mkTh ⟨1, K, 0, 0⟩
def thS (s : Int) : ThB := mkTh ⟨3, zKey, s, 0⟩
abbrev SnT := List (ThB × It)
def seenM (l : List It) : SnT := l.foldl (fun S i => aput S (stT i) i) []
theorem seenM_snoc (l : List It) (i : It) : seenM (l ++ [i]) = aput (seenM l) (stT i) i := by simp [seenM, List.foldl_append]
theorem seenM_some (l : List It) (t : ThB) : (aget (seenM l) t).isSome = decide (t ∈ l.map stT) := by
  induction l using snoc_ind with
  | nil => simp [seenM, aget]
  | append_singleton l x ih =>
    rw [seenM_snoc, aget_put]
    by_cases h : stT x = t
    · simp [h]
    · have h' : ¬ t = stT x := fun e => h e.symm
      rw [if_neg h, ih]
      simp [h']
theorem seenM_len (l : List It) : (seenM l).length ≤ l.length := by
  induction l using snoc_ind with
  | nil => simp [seenM]
  | append_singleton l x ih =>
    have := aput_len (seenM l) (stT x) x
    rw [seenM_snoc, List.length_append, List.length_singleton]
    omega
def cMof (a : List Cn) : SuM := a.foldl (fun S c => aput S c.key c.ref) []
theorem cMof_snoc (a : List Cn) (c : Cn) : cMof (a ++ [c]) = aput (cMof a) c.key c.ref := by simp [cMof, List.foldl_append]
theorem cMof_len (a : List Cn) : (cMof a).length ≤ a.length := by
  induction a using snoc_ind with
  | nil => simp [cMof]
  | append_singleton a c ih =>
    have := aput_len (cMof a) c.key c.ref
    rw [cMof_snoc, List.length_append, List.length_singleton]
    omega
theorem cMof_val {a : List Cn} (h : KeysNd a) (K : Key) : valF (cMof a) K = sumCn a K := by
  induction a using snoc_ind with
  | nil => rfl
  | append_singleton a c ih =>
    have hp := List.pairwise_append.1 h
    have ih := ih hp.1
    rw [cMof_snoc]
    have e : sumCn (a ++ [c]) K = sumCn a K + sumCn [c] K := by
      unfold sumCn
      rw [List.filter_append, List.map_append, List.sum_append]
    rw [e]
    unfold valF at ih ⊢
    rw [aget_put]
    by_cases hk : c.key = K
    · have : sumCn a K = 0 := sumCn_not (fun x hx => by have := hp.2.2 x hx c (by simp); rw [hk] at this; exact this)
      rw [if_pos hk, this]
      simp [sumCn, hk]
    · rw [if_neg hk, ih]
      simp [sumCn, hk]
theorem cM_cnt (l : List It) (K : Key) : valF (cMof (countC l)) K = cntI l K := by
  have hn : KeysNd (countC l) := by unfold countC; exact rowC_nd (sumF_uniq _)
  rw [cMof_val hn]
  unfold countC
  rw [row_sum (sumF_uniq _), cnt_val]
/-- Is an item in order among the others? -/
def okI (units : Int) (l : List It) (i : It) : Bool :=
  if i.kind = 1 then decide (cntI l i.key = i.pl.ref)
  else if i.kind = 2 then
    match aget (seenM l) (thE i.sl.key) with
    | none => false
    | some x => decide (i.sl.off < x.pl.uni) && decide (i.unit < units) && (decide (i.snap ≤ 0) || (aget (seenM l) (thS i.snap)).isSome)
  else true
def snapsN (l : List It) : Nat := (l.filter (fun i => i.kind == 3)).length
theorem snapsN_snoc (l : List It) (i : It) : snapsN (l ++ [i]) = snapsN l + (if i.kind == 3 then 1 else 0) := by
  unfold snapsN
  rw [List.filter_append, List.length_append]
  by_cases h : (i.kind == 3) = true <;> simp [h]
theorem snapsN_le (l : List It) : snapsN l ≤ l.length := List.length_filter_le _ _
def makesB (units : Int) (l : List It) : Bool := l.all rightI && decide ((l.map stT).Nodup) && l.all (okI units l) && decide (snapsN l ≤ 8)
theorem nd_next {l : List It} {j : Nat} (hj : j < l.length) (h : ((l.take j).map stT).Nodup) (hx : (aget (seenM (l.take j)) (stT (l[j]'hj))).isSome = false) : ((l.take (j + 1)).map stT).Nodup := by
  rw [seenM_some] at hx
  have hx := of_decide_eq_false hx
  rw [List.take_succ_eq_append_getElem hj, List.map_append, List.nodup_append]
  exact ⟨h, by simp, fun a ha b hb e => hx (by simp at hb; rw [← hb, ← e]; exact ha)⟩
theorem nd_bad {l : List It} {j : Nat} (hj : j < l.length) (hx : (aget (seenM (l.take j)) (stT (l[j]'hj))).isSome = true) : ¬ (l.map stT).Nodup := by
  rw [seenM_some] at hx
  have hx := of_decide_eq_true hx
  intro h
  have h2 : ((l.take (j + 1)).map stT).Nodup := h.sublist ((List.take_sublist (j + 1) l).map _)
  rw [List.take_succ_eq_append_getElem hj, List.map_append, List.nodup_append] at h2
  exact h2.2.2 _ hx _ (by simp) rfl
theorem ops_badI {l : List It} {p : It → Bool} {i : Nat} (hi : i < l.length) (hx : p (l[i]'hi) = false) : l.all p = false := by
  rw [← Bool.not_eq_true, List.all_eq_true]
  intro h
  rw [h _ (List.getElem_mem hi)] at hx
  cases hx
theorem makes_bad1 {units : Int} {l : List It} {j : Nat} (hj : j < l.length) (h : rightI (l[j]'hj) = false) : makesB units l = false := by
  unfold makesB
  rw [ops_badI hj h]
  rfl
theorem makes_bad2 {units : Int} {l : List It} (h : ¬ (l.map stT).Nodup) : makesB units l = false := by
  unfold makesB
  rw [decide_eq_false h]
  simp
theorem makes_bad3 {units : Int} {l : List It} {j : Nat} (hj : j < l.length) (h : okI units l (l[j]'hj) = false) : makesB units l = false := by
  unfold makesB
  rw [ops_badI hj h]
  simp
theorem makes_end {units : Int} {l : List It} (h1 : l.all rightI = true) (h2 : (l.map stT).Nodup) (h3 : l.all (okI units l) = true) : makesB units l = decide (snapsN l ≤ 8) := by
  unfold makesB
  rw [h1, decide_eq_true h2, h3]
  rfl
end Go.Proofs.YtgjjdfhoakailaaGreat
