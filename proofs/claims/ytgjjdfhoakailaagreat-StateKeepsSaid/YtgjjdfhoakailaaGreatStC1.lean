/-
  refs: row: walked.
-/
import Derived.Test.YtgjjdfhoakailaaGreatStX5
namespace Go.Proofs.YtgjjdfhoakailaaGreat
open Go.RowKit Go.Maps Go.Sort Go.Shelf
set_option linter.unusedVariables false
set_option linter.unusedSimpArgs false

theorem info_Cn : (Tryz.prog.info? 89).map (fun i => (i.zero, i.size, i.bytes)) = some (some (.agg (cnC ⟨zKey, 0⟩).toArray), 33, 40) := by kernel_rfl
theorem cn_has (i : Cn) : (Tryz.prog.info? 89).map (fun i => (i.zero, i.size, i.bytes)) = some (some (.agg (cnC ⟨zKey, 0⟩).toArray), (cnC i).length, 40) := by rw [cnC_len]; exact info_Cn
theorem cnC_info (i : Cn) : (Tryz.prog.info? 89).map (·.size) = some (cnC i).length := by rw [cnC_len]; kernel_rfl
def cnsC (l : List Cn) : List Value := l.flatMap cnC
theorem cnsC_len (l : List Cn) : (cnsC l).length = l.length * 33 := by
  unfold cnsC
  induction l with
  | nil => rfl
  | cons x l ih => rw [List.flatMap_cons, List.length_append, cnC_len, ih, List.length_cons, Nat.succ_mul]; omega
theorem cnsC_one (l : List Cn) : ∀ v ∈ cnsC l, v.oneCell' = true := by
  intro v hv
  obtain ⟨x, _, h⟩ := List.mem_flatMap.1 hv
  exact cnC_one x v h
theorem cnsC_append (l r : List Cn) : cnsC (l ++ r) = cnsC l ++ cnsC r := by unfold cnsC; rw [List.flatMap_append]
theorem cnsC_single (i : Cn) : cnsC [i] = cnC i := by simp [cnsC]
section
variable {w : World} {ops : Array Oper} {rest : List Oper} {o : Oper} {a : Act} {Q : Exit → Act → World → Prop}
theorem wpl_lit_cn (hg : o.guard = none) (x : Operand) (hop : o.op = .buildSlice 85 1 #[(0, x)]) (i : Cn) (hx : a.eval x = .agg (cnC i).toArray)
    (hK : ∀ w1, Blk w1 w.heap.size 89 (cnC i).toArray → w.grownBy w1 none → w1.heap.size = w.heap.size + 1 → wpList Tryz.prog ops Q rest (a.put o.dst (.slice (some ⟨w.heap.size, 0, none⟩) 1 1)) w1) : wpList Tryz.prog ops Q (o :: rest) a w :=
  wpl_lit1 hg 85 89 x hop (cnC i) hx Tryz.underlying85 (cn_has i) (by rw [cnC_len]; simp [Value.cells, cnC_len]) (by rw [cnC_len]; omega) (by rw [cnC_len]; omega) hK
theorem wpl_app_cn (hg : o.guard = none) (s x : Operand) (hop : o.op = .call { callee := .builtin .append, args := #[s, x], argTypes := #[85, 85] }) (base : Nat) (v : Value) (l : List Cn) (hs : a.eval s = v) (hown : w.ownsRow base 89 33 v l.length (cnsC l))
    (g : Nat) (i : Cn) (hx : a.eval x = .slice (some ⟨g, 0, none⟩) 1 1) (hb : Blk w g 89 (cnC i).toArray) (hn : l.length ≤ 1000000000) (hbase : base ≤ w.heap.size)
    (h : ∀ v' w1, w1.ownsRow base 89 33 v' (l ++ [i]).length (cnsC (l ++ [i])) → w.grownBy w1 v.ownBlock → wpList Tryz.prog ops Q rest (a.put o.dst v') w1) : wpList Tryz.prog ops Q (o :: rest) a w := by
  refine app_src hg s x 85 hop base 89 _ 33 40 Tryz.underlying85 info_Cn (by simp [Value.cells, cnC_len]) (by omega) v l.length (cnsC l) hs hown (.slice (some ⟨g, 0, none⟩) 1 1) 1 (cnC i) hx ⟨_, 1, rfl, by rw [cnC_len], fun _ => ⟨g, 0, rfl, hb.lt, fun j y hy => ?_⟩⟩ (cnC_one i) (by omega) (by omega) hbase (fun v' w1 h1 h2 _ => h v' w1 ?_ h2)
  · rw [Nat.zero_add]
    exact hb.cell (by rw [List.getElem?_toArray]; exact hy)
  · rw [cnsC_append, cnsC_single, List.length_append]
    exact h1
end
theorem built_cn (K : Key) (n : Int) : Tryz.prog.built 89 [(0, .agg (keyL K).toArray), (1, .int .i64 n)] = some (cnC ⟨K, n⟩).toArray := by
  have e : Tryz.prog.built 89 [(0, .agg (keyL K).toArray), (1, .int .i64 n)] = Instr.fill ([(0, 32), (32, 1)].toArray[·]?) (cnC ⟨zKey, 0⟩).toArray [(0, .agg (keyL K).toArray), (1, .int .i64 n)] := by kernel_rfl
  rw [e, fill_cons 0 (keyL K) (by simp [Value.cells]) (by rw [keyL_len]; rfl) (by simp [cnC_len, keyL_len]), put_mid (l := cnC ⟨zKey, 0⟩) (l' := cnC ⟨K, 0⟩) [] [.int .i64 0] (keyL zKey) (keyL K) 0 rfl rfl rfl (by rw [keyL_len, keyL_len]), fill_cons 32 [.int .i64 n] rfl rfl (by simp [cnC_len]), put_mid (l := cnC ⟨K, 0⟩) (l' := cnC ⟨K, n⟩) (keyL K) [] [.int .i64 0] [.int .i64 n] 32 rfl rfl (keyL_len K) rfl]
  rfl
theorem sortCns (base : Nat) (v : Value) (l : List Cn) (w : World) (hown : w.ownsRow base 89 33 v l.length (cnsC l)) (hsz : l.length ≤ 1000000000) :
    Calls Tryz.prog 115 #[v, .func (.func 116) #[] #[]] w (SrtPost cnC 33 base l.length 89 (fun x y => cmpK x.key y.key) v l w) :=
  sortFunc_own Tryz.sortCn 33 Tryz.isAgg89 Tryz.sizeOf89 cnC cnC_len cnC_one _ (swo_key Cn.key) 116 (enters_of Tryz.func116 (by kernel_rfl) rfl) cmpCn base _ v l w hown hsz
abbrev SuM := List (Key × Int)
def cnOf (p : Key × Int) : Cn := ⟨p.1, p.2⟩
def leCn (x y : Cn) : Bool := !(ltOf (fun x y : Cn => cmpK x.key y.key) y x)
def nz (S : SuM) : SuM := S.filter (fun p => !decide (p.2 = 0))
/-- Sums that are not nought, by their keys. -/
def rowC (S : SuM) : List Cn := ((nz S).map cnOf).mergeSort leCn
theorem leCn_trans (a b c : Cn) (h1 : leCn a b = true) (h2 : leCn b c = true) : leCn a c = true := by
  have := (swo_key Cn.key).ntrans c b a
  unfold leCn at *
  simp at h1 h2 ⊢
  exact this h2 h1
theorem leCn_total (a b : Cn) : (leCn a b || leCn b a) = true := by
  have h := (swo_key Cn.key)
  unfold leCn
  cases h1 : ltOf (fun x y : Cn => cmpK x.key y.key) b a
  · rfl
  · cases h2 : ltOf (fun x y : Cn => cmpK x.key y.key) a b
    · rfl
    · have := h.trans _ _ _ h1 h2
      rw [h.irrefl] at this
      cases this
theorem rowC_perm (S : SuM) : (rowC S).Perm ((nz S).map cnOf) := List.mergeSort_perm _ _
theorem rowC_sorted (S : SuM) : (rowC S).Pairwise (fun a b => leCn a b = true) := List.pairwise_mergeSort leCn_trans leCn_total _
theorem rowC_len (S : SuM) : (rowC S).length ≤ S.length := by rw [(rowC_perm S).length_eq, List.length_map]; exact List.length_filter_le _ _
theorem rowC_eq {S : SuM} (hu : Uniq S) {l : List Cn} (hp : l.Perm ((nz S).map cnOf)) (hs : l.Pairwise (fun x y => ltOf (fun x y : Cn => cmpK x.key y.key) y x = false)) : l = rowC S := by
  have hu' : Uniq (nz S) := hu.filter _
  refine List.Perm.eq_of_pairwise (le := fun a b => leCn a b = true) (fun a b ha hb h1 h2 => ?_) (hs.imp (fun {a b} h => by unfold leCn; rw [h]; rfl)) (rowC_sorted S) (hp.trans (rowC_perm S).symm)
  obtain ⟨p, hp1, rfl⟩ := List.mem_map.1 (hp.mem_iff.1 ha)
  obtain ⟨q, hq1, rfl⟩ := List.mem_map.1 ((rowC_perm S).mem_iff.1 hb)
  unfold leCn ltOf at h1 h2
  simp at h1 h2
  have hk : p.1 = q.1 := cmpK_zero (K := p.1) (L := q.1) h2 h1
  have e1 := aget_of_mem hu' (x := p.1) (v := p.2) hp1
  have e2 := aget_of_mem hu' (x := q.1) (v := q.2) hq1
  rw [hk, e2] at e1
  injection e1 with e1
  unfold cnOf
  rw [hk, e1]
structure CRI (w : World) (b r : Nat) (S : SuM) (v3 : Value) (l : List Cn) (todo : SuM) (wr : World) : Prop where
  rng : RangeIs Tryz.prog 50 vKey klK (Value.int .i64) wr b r S todo
  out : wr.ownsRow w.heap.size 89 33 v3 l.length (cnsC l)
  low : Below w.heap.size w wr
  what : ∃ done, S.Perm (done ++ todo) ∧ l = (nz done).map cnOf
theorem CRI.len {w : World} {b r : Nat} {S : SuM} {v3 : Value} {l : List Cn} {todo : SuM} {wr : World} (h : CRI w b r S v3 l todo wr) : l.length + todo.length ≤ S.length := by
  obtain ⟨done, h1, h2⟩ := h.what
  have := List.length_filter_le (fun p : Key × Int => !decide (p.2 = 0)) done
  rw [h1.length_eq, h2, List.length_map, List.length_append]
  unfold nz
  omega
def CMI (w : World) (b r : Nat) (S : SuM) (k : Nat) (v3 : Value) (wr : World) : Prop := ∃ l todo, k = todo.length ∧ CRI w b r S v3 l todo wr
set_option maxRecDepth 100000 in
set_option maxHeartbeats 2000000 in
theorem row_any {w : World} {b : Nat} {S : SuM} (h : MapIs Tryz.prog 50 vKey klK (Value.int .i64) w b S) (hS : S.length ≤ 100000000) : Calls Tryz.prog 95 #[.map (some b)] w fun e w' => ∃ v, e = .returned v ∧ w'.ownsRow w.heap.size 89 33 v (rowC S).length (cnsC (rowC S)) ∧ Below w.heap.size w w' := by
  have H := Lib.hid h
  clear h
  go_enter Tryz.func95, Tryz.ntmps95
  go_wp2_with ((with_reducible show wpList _ _ _ (_ :: _) _ _); refine wpl_mrange rfl 141 (.tmp 6) rfl keyed_key Tryz.underlying141 H.out rfl ?_; intro w1 hr hg hz; have R1 := Lib.hid hr; have G1 := Lib.hid hg; clear hr hg hz)
  have L1 := Lib.hid (bl_n (Below.refl _ _) G1.out)
  have X1 := Lib.hid (show CRI w b w.heap.size S (.slice none 0 0) [] S w1 from ⟨R1.out, World.ownsRow_nil _ _ _ _, L1.out, [], List.Perm.refl _, rfl⟩)
  go_frame
  clear R1 G1 L1
  go_loopg [3] S.length (fun k v3 wr => CMI w b w.heap.size S k v3 wr)
  case atStart => exact ⟨[], S, rfl, X1.out⟩
  case round =>
    obtain ⟨l, todo, hk, hX⟩ := hrel
    have X := Lib.hid hX
    have HK := Lib.hid hk
    clear hX hk X1
    go_wp2_with ((with_reducible show wpList _ _ _ (_ :: _) _ _); refine wpl_mnext rfl (.tmp 7) rfl keyed_key X.out.rng rfl (fun p _ q _ h => klK_inj h) ?_ ?_)
    · intro htd
      have hl := X.out.len
      have HTd := Lib.hid htd
      have hlb : l.length ≤ 1000000000 := by omega
      clear htd hl
      go_wp2_with (go_at_call 115; refine (sortCns w.heap.size u3 l wr X.out.out hlb).mono ?_; rintro e w2 ⟨rfl, l', hp, hs, ho, hg⟩; have P := Lib.hid hp; have S' := Lib.hid hs; have O := Lib.hid ho; have G := Lib.hid hg; clear hp hs ho hg)
      go_ret
      obtain ⟨done, h1, h2⟩ := X.out.what
      rw [HTd.out, List.append_nil] at h1
      have e : l' = rowC S := rowC_eq X.out.rng.owns.uniq (P.out.trans (by rw [h2]; exact ((h1.filter _).map cnOf).symm)) S'.out
      have ho := O.out
      rw [← P.out.length_eq, e] at ho
      exact ⟨_, rfl, ho, (X.out.low).grown G.out X.out.low.size (fun k hk => (own_at X.out.out k hk).1)⟩
    · intro kv kp n todo' w1' hperm hR hg hsz hen
      obtain ⟨K, hK⟩ : ∃ K : Key, (⟨kv, kp⟩ : Key) = K := ⟨_, rfl⟩
      rw [hK] at hperm hen
      rw [hK]
      clear hK kp kv
      have hne := own_ne_iter X.out.rng X.out.out
      have Ox := Lib.hid (own_keptR X.out.out hg (fun b hb => by injection hb with hb; subst hb; exact hne.1))
      have Lx := Lib.hid (bl_g X.out.low hg (Nat.le_refl _))
      have Rx := Lib.hid hR
      have Px := Lib.hid hperm
      have Wx := Lib.hid X.out.what
      have HXl := Lib.hid X.out.len
      clear hne hg hsz hR hperm X
      go_upto_region 5 with (first
        | ((with_reducible show wpList _ _ _ (_ :: _) _ _); refine wpl_alloc rfl 50 rfl Tryz.zeroValue50 32 rfl ?_; intro wA csA hk hc hg hz; have KA := Lib.hid hk; have CA := Lib.hid hc; have GA := Lib.hid hg; clear hk hc hg hz)
        | ((with_reducible show wpList _ _ _ (_ :: _) _ _); refine wpl_over rfl 50 (.tmp 4) (.tmp 11) rfl w1'.heap.size (keyL K) rfl rfl _ csA KA.out (keyL_info K) (by rw [keyL_len, CA.out]) (keyL_one K) ?_; intro wD hk hg hz; have KC := Lib.hid hk; have GC := Lib.hid hg; clear hk hg hz))
      have LD := Lib.hid (show Below w1'.heap.size w1' wD from bl_g (bl_n (Below.refl _ _) GA.out) GC.out (Nat.le_refl _))
      have Od := Lib.hid (own_belowR Ox.out LD.out)
      have Ld := Lib.hid (below_chain Lx.out LD.out)
      have Rd := Lib.hid (Rx.out.tbelow LD.out)
      have Q1 := Lib.hid (show wD.rangeAt w1'.heap.size 0 (keyL K) by have := KC.out.range; rwa [toArr] at this)
      have hlb : l.length ≤ 1000000000 := by have := HXl.out; omega
      clear KA CA GA KC GC Ox Lx Rx hen
      by_cases hn : n = 0
      · subst hn
        go_wp2_with fail
        go_roundg todo'.length
        case measure => rw [HK.out, Px.out.length_eq, List.length_cons]; omega
        case rel =>
          obtain ⟨done, h1, h2⟩ := Wx.out
          refine ⟨l, todo', rfl, Rd.out, Od.out, Ld.out, done ++ [(K, 0)], ?_, ?_⟩
          · rw [List.append_assoc]
            exact h1.trans (List.Perm.append_left _ Px.out)
          · rw [h2]; unfold nz; rw [List.filter_append]; simp
      · have en : (n == 0) = false := beq_eq_false_iff_ne.2 hn
        have HN := Lib.hid hn
        clear hn
        go_wp2_with (first
          | ((with_reducible show wpList _ _ _ (_ :: _) _ _); refine wpList_load_mid rfl 50 (.tmp 4) rfl w1'.heap.size 0 rfl (keyL K) _ Q1.out Tryz.underlying50 rfl (keyL_info _) ?_)
          | ((with_reducible show wpList _ _ _ (_ :: _) _ _); refine wpl_mk rfl 89 #[(0, .tmp 16), (1, .tmp 17)] rfl [(0, .agg (keyL K).toArray), (1, .int .i64 n)] rfl _ (built_cn K n) ?_)
          | ((with_reducible show wpList _ _ _ (_ :: _) _ _); refine wpl_lit_cn rfl (.tmp 18) rfl (cnOf (K, n)) rfl ?_; intro wE hk hg hz; have KE := Lib.hid hk; have GE := Lib.hid hg; clear hk hg hz; have LE := Lib.hid (show Below wD.heap.size wD wE from bl_n (Below.refl _ _) GE.out); have Oe := Lib.hid (own_belowR Od.out LE.out); have Le := Lib.hid (below_chain Ld.out LE.out))
          | ((with_reducible show wpList _ _ _ (_ :: _) _ _); refine wpl_app_cn rfl (.tmp 15) (.tmp 19) rfl w.heap.size u3 l rfl Oe.out _ (cnOf (K, n)) rfl KE.out hlb Le.out.size ?_; intro v' wF ho hg; have OF := Lib.hid ho; have GF := Lib.hid hg; clear ho hg))
        go_roundg todo'.length
        case measure => rw [HK.out, Px.out.length_eq, List.length_cons]; omega
        case rel =>
          obtain ⟨done, h1, h2⟩ := Wx.out
          have Re := Rd.out.tbelow LE.out
          have hne := own_ne_iter Re Oe.out
          refine ⟨l ++ [cnOf (K, n)], todo', rfl, Re.kept GF.out (fun e => hne.2 e.symm) (fun e => hne.1 e.symm), OF.out, Le.out.grown GF.out Le.out.size (fun k hk => (own_at Oe.out k hk).1), done ++ [(K, n)], ?_, ?_⟩
          · rw [List.append_assoc]
            exact h1.trans (List.Perm.append_left _ Px.out)
          · rw [h2]; unfold nz; rw [List.filter_append, List.map_append]; simp [HN.out]
end Go.Proofs.YtgjjdfhoakailaaGreat
