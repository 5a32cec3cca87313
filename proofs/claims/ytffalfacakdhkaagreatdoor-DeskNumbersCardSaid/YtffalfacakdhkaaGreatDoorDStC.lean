/-
  what this claim needs of: StC (written by cut.py).
-/
import Derived.Test.YtffalfacakdhkaaGreatDoorDStB
namespace Go.Proofs.YtffalfacakdhkaaGreatDoor
open Go.RowKit Go.Maps Go.Sort Go.Shelf
set_option linter.unusedVariables false
set_option linter.unusedSimpArgs false

theorem info_Cn : (Tryz.prog.info? 368).map (fun i => (i.zero, i.size, i.bytes)) = some (some (.agg (cnC ⟨zKey, 0⟩).toArray), 33, 40) := by kernel_rfl
theorem cn_has (i : Cn) : (Tryz.prog.info? 368).map (fun i => (i.zero, i.size, i.bytes)) = some (some (.agg (cnC ⟨zKey, 0⟩).toArray), (cnC i).length, 40) := by rw [cnC_len]; exact info_Cn
theorem cnC_info (i : Cn) : (Tryz.prog.info? 368).map (·.size) = some (cnC i).length := by rw [cnC_len]; kernel_rfl
def cnsC (l : List Cn) : List Value := l.flatMap cnC
theorem cnsC_append (l r : List Cn) : cnsC (l ++ r) = cnsC l ++ cnsC r := by unfold cnsC; rw [List.flatMap_append]
theorem cnsC_single (i : Cn) : cnsC [i] = cnC i := by simp [cnsC]
section
variable {w : World} {ops : Array Oper} {rest : List Oper} {o : Oper} {a : Act} {Q : Exit → Act → World → Prop}
theorem wpl_lit_cn (hg : o.guard = none) (x : Operand) (hop : o.op = .buildSlice 364 1 #[(0, x)]) (i : Cn) (hx : a.eval x = .agg (cnC i).toArray)
  (hK : ∀ w1, Blk w1 w.heap.size 368 (cnC i).toArray → w.grownBy w1 none → w1.heap.size = w.heap.size + 1 → wpList Tryz.prog ops Q rest (a.put o.dst (.slice (some ⟨w.heap.size, 0, none⟩) 1 1)) w1) : wpList Tryz.prog ops Q (o :: rest) a w :=
 wpl_lit1 hg 364 368 x hop (cnC i) hx Tryz.underlying364 (cn_has i) (by rw [cnC_len]; simp [Value.cells, cnC_len]) (by rw [cnC_len]; omega) (by rw [cnC_len]; omega) hK
theorem wpl_app_cn (hg : o.guard = none) (s x : Operand) (hop : o.op = .call { callee := .builtin .append, args := #[s, x], argTypes := #[364, 364] }) (base : Nat) (v : Value) (l : List Cn) (hs : a.eval s = v) (hown : w.ownsRow base 368 33 v l.length (cnsC l))
  (g : Nat) (i : Cn) (hx : a.eval x = .slice (some ⟨g, 0, none⟩) 1 1) (hb : Blk w g 368 (cnC i).toArray) (hn : l.length ≤ 1000000000) (hbase : base ≤ w.heap.size)
  (h : ∀ v' w1, w1.ownsRow base 368 33 v' (l ++ [i]).length (cnsC (l ++ [i])) → w.grownBy w1 v.ownBlock → wpList Tryz.prog ops Q rest (a.put o.dst v') w1) : wpList Tryz.prog ops Q (o :: rest) a w := by
 refine app_src hg s x 364 hop base 368 _ 33 40 Tryz.underlying364 info_Cn (by simp [Value.cells, cnC_len]) (by omega) v l.length (cnsC l) hs hown (.slice (some ⟨g, 0, none⟩) 1 1) 1 (cnC i) hx ⟨_, 1, rfl, by rw [cnC_len], fun _ => ⟨g, 0, rfl, hb.lt, fun j y hy => ?_⟩⟩ (cnC_one i) (by omega) (by omega) hbase (fun v' w1 h1 h2 _ => h v' w1 ?_ h2)
 ·rw [Nat.zero_add]
  exact hb.cell (by rw [List.getElem?_toArray]; exact hy)
 ·rw [cnsC_append, cnsC_single, List.length_append]
  exact h1
end
theorem built_cn (K : Key) (n : Int) : Tryz.prog.built 368 [(0, .agg (keyL K).toArray), (1, .int .i64 n)] = some (cnC ⟨K, n⟩).toArray := by
 have e : Tryz.prog.built 368 [(0, .agg (keyL K).toArray), (1, .int .i64 n)] = Instr.fill ([(0, 32), (32, 1)].toArray[·]?) (cnC ⟨zKey, 0⟩).toArray [(0, .agg (keyL K).toArray), (1, .int .i64 n)] := by kernel_rfl
 rw [e, fill_cons 0 (keyL K) (by simp [Value.cells]) (by rw [keyL_len]; rfl) (by simp [cnC_len, keyL_len]), put_mid (l := cnC ⟨zKey, 0⟩) (l' := cnC ⟨K, 0⟩) [] [.int .i64 0] (keyL zKey) (keyL K) 0 rfl rfl rfl (by rw [keyL_len, keyL_len]), fill_cons 32 [.int .i64 n] rfl rfl (by simp [cnC_len]), put_mid (l := cnC ⟨K, 0⟩) (l' := cnC ⟨K, n⟩) (keyL K) [] [.int .i64 0] [.int .i64 n] 32 rfl rfl (keyL_len K) rfl]
 rfl
theorem sortCns (base : Nat) (v : Value) (l : List Cn) (w : World) (hown : w.ownsRow base 368 33 v l.length (cnsC l)) (hsz : l.length ≤ 1000000000) :
  Calls Tryz.prog 378 #[v, .func (.func 379) #[] #[]] w (SrtPost cnC 33 base l.length 368 (fun x y => cmpK x.key y.key) v l w) :=
 sortFunc_own Tryz.sortCn 33 Tryz.isAgg368 Tryz.sizeOf368 cnC cnC_len cnC_one _ (swo_key Cn.key) 379 (enters_of Tryz.func379 (by kernel_rfl) rfl) cmpCn base _ v l w hown hsz
abbrev SuM := List (Key × Int)
def cnOf (p : Key × Int) : Cn := ⟨p.1, p.2⟩
def leCn (x y : Cn) : Bool := !(ltOf (fun x y : Cn => cmpK x.key y.key) y x)
def nz (S : SuM) : SuM := S.filter (fun p => !decide (p.2 = 0))
/-- Sums that are not nought, by their keys. -/
def rowCn (S : SuM) : List Cn := ((nz S).map cnOf).mergeSort leCn
theorem leCn_trans (a b c : Cn) (h1 : leCn a b = true) (h2 : leCn b c = true) : leCn a c = true := by
 have := (swo_key Cn.key).ntrans c b a
 unfold leCn at *
 simp at h1 h2 ⊢
 exact this h2 h1
theorem leCn_total (a b : Cn) : (leCn a b || leCn b a) = true := by
 have h := (swo_key Cn.key)
 unfold leCn
 cases h1 : ltOf (fun x y : Cn => cmpK x.key y.key) b a
 ·rfl
 ·cases h2 : ltOf (fun x y : Cn => cmpK x.key y.key) a b
  ·rfl
  ·have := h.trans _ _ _ h1 h2
   rw [h.irrefl] at this
   cases this
theorem rowC_perm (S : SuM) : (rowCn S).Perm ((nz S).map cnOf) := List.mergeSort_perm _ _
theorem rowC_sorted (S : SuM) : (rowCn S).Pairwise (fun a b => leCn a b = true) := List.pairwise_mergeSort leCn_trans leCn_total _
theorem rowC_len (S : SuM) : (rowCn S).length ≤ S.length := by rw [(rowC_perm S).length_eq, List.length_map]; exact List.length_filter_le _ _
theorem rowC_eq {S : SuM} (hu : Uniq S) {l : List Cn} (hp : l.Perm ((nz S).map cnOf)) (hs : l.Pairwise (fun x y => ltOf (fun x y : Cn => cmpK x.key y.key) y x = false)) : l = rowCn S := by
 have hu' : Uniq (nz S) := hu.filter _
 refine List.Perm.eq_of_pairwise (le := fun a b => leCn a b = true) (fun a b ha hb h1 h2 => ?_) (hs.imp (fun {a b} h => by unfold leCn; rw [h]; rfl)) (rowC_sorted S) (hp.trans (rowC_perm S).symm)
 obtain ⟨p, hp1, rfl⟩ := List.mem_map.1 (hp.mem_iff.1 ha)
 obtain ⟨q, hq1, rfl⟩ := List.mem_map.1 ((rowC_perm S).mem_iff.1 hb)
 unfold leCn ltOf at h1 h2
 simp at h1 h2
 have hk : p.1 = q.1 := cmpK_zero (K := p.1) (L := q.1) h2 h1
 have e1 := aget_of_mem hu' (x := p.1) (v := p.2) hp1
 have e2 := aget_of_mem hu' (x := q.1) (v := q.2) hq1
 rw [hk, e2] at e1
 injection e1 with e1
 unfold cnOf
 rw [hk, e1]
structure CRI (w : World) (b r : Nat) (S : SuM) (v3 : Value) (l : List Cn) (todo : SuM) (wr : World) : Prop where
 rng : RangeIs Tryz.prog 179 vKey klK (Value.int .i64) wr b r S todo
 out : wr.ownsRow w.heap.size 368 33 v3 l.length (cnsC l)
 low : Below w.heap.size w wr
 what : ∃ done, S.Perm (done ++ todo) ∧ l = (nz done).map cnOf
theorem CRI.len {w : World} {b r : Nat} {S : SuM} {v3 : Value} {l : List Cn} {todo : SuM} {wr : World} (h : CRI w b r S v3 l todo wr) : l.length + todo.length ≤ S.length := by
 obtain ⟨done, h1, h2⟩ := h.what
 have := List.length_filter_le (fun p : Key × Int => !decide (p.2 = 0)) done
 rw [h1.length_eq, h2, List.length_map, List.length_append]
 unfold nz
 omega
def CMI (w : World) (b r : Nat) (S : SuM) (k : Nat) (v3 : Value) (wr : World) : Prop := ∃ l todo, k = todo.length ∧ CRI w b r S v3 l todo wr
set_option maxRecDepth 100000 in
set_option maxHeartbeats 2000000 in
theorem row_any {w : World} {b : Nat} {S : SuM} (h : MapIs Tryz.prog 179 vKey klK (Value.int .i64) w b S) (hS : S.length ≤ 100000000) : Calls Tryz.prog 319 #[.map (some b)] w fun e w' => ∃ v, e = .returned v ∧ w'.ownsRow w.heap.size 368 33 v (rowCn S).length (cnsC (rowCn S)) ∧ Below w.heap.size w w' := by
 have H := yH h
 clear h
 go_enter Tryz.func319, Tryz.ntmps319
 go_wp2_with ((with_reducible show wpList _ _ _ (_ :: _) _ _); refine wpl_mrange rfl 454 (.tmp 6) rfl keyed_key Tryz.underlying454 H.out rfl ?_; intro w1 hr hg hz; have R1 := yH hr; have G1 := yH hg; clear hr hg hz)
 have L1 := yH (bl_n (Below.refl _ _) G1.out)
 have X1 := yH (show CRI w b w.heap.size S (.slice none 0 0) [] S w1 from ⟨R1.out, World.ownsRow_nil _ _ _ _, L1.out, [], List.Perm.refl _, rfl⟩)
 go_frame
 clear R1 G1 L1
 go_loopg [3] S.length (fun k v3 wr => CMI w b w.heap.size S k v3 wr)
 case atStart => exact ⟨[], S, rfl, X1.out⟩
 case round =>
  obtain ⟨l, todo, hk, hX⟩ := hrel
  have X := yH hX
  have HK := yH hk
  clear hX hk X1
  go_wp2_with ((with_reducible show wpList _ _ _ (_ :: _) _ _); refine wpl_mnext rfl (.tmp 7) rfl keyed_key X.out.rng rfl (fun p _ q _ h => klK_inj h) ?_ ?_)
  ·intro htd
   have hl := X.out.len
   have HTd := yH htd
   have hlb : l.length ≤ 1000000000 := by omega
   clear htd hl
   go_wp2_with (go_at_call 378; refine (sortCns w.heap.size u3 l wr X.out.out hlb).mono ?_; rintro e w2 ⟨rfl, l', hp, hs, ho, hg⟩; have P := yH hp; have S' := yH hs; have O := yH ho; have G := yH hg; clear hp hs ho hg)
   go_ret
   obtain ⟨done, h1, h2⟩ := X.out.what
   rw [HTd.out, List.append_nil] at h1
   have e : l' = rowCn S := rowC_eq X.out.rng.owns.uniq (P.out.trans (by rw [h2]; exact ((h1.filter _).map cnOf).symm)) S'.out
   have ho := O.out
   rw [← P.out.length_eq, e] at ho
   exact ⟨_, rfl, ho, (X.out.low).grown G.out X.out.low.size (fun k hk => (own_at X.out.out k hk).1)⟩
  ·intro kv kp n todo' w1' hperm hR hg hsz hen
   obtain ⟨K, hK⟩ : ∃ K : Key, (⟨kv, kp⟩ : Key) = K := ⟨_, rfl⟩
   rw [hK] at hperm hen
   rw [hK]
   clear hK kp kv
   have hne := own_ne_iter X.out.rng X.out.out
   have Ox := yH (own_keptR X.out.out hg (fun b hb => by injection hb with hb; subst hb; exact hne.1))
   have Lx := yH (bl_g X.out.low hg (Nat.le_refl _))
   have Rx := yH hR
   have Px := yH hperm
   have Wx := yH X.out.what
   have HXl := yH X.out.len
   clear hne hg hsz hR hperm X
   go_upto_region 5 with (first
    | ((with_reducible show wpList _ _ _ (_ :: _) _ _); refine wpl_alloc rfl 179 rfl Tryz.zeroValue179 32 rfl ?_; intro wA csA hk hc hg hz; have KA := yH hk; have CA := yH hc; have GA := yH hg; clear hk hc hg hz)
    | ((with_reducible show wpList _ _ _ (_ :: _) _ _); refine wpl_over rfl 179 (.tmp 4) (.tmp 11) rfl w1'.heap.size (keyL K) rfl rfl _ csA KA.out (keyL_info K) (by rw [keyL_len, CA.out]) (keyL_one K) ?_; intro wD hk hg hz; have KC := yH hk; have GC := yH hg; clear hk hg hz))
   have LD := yH (show Below w1'.heap.size w1' wD from bl_g (bl_n (Below.refl _ _) GA.out) GC.out (Nat.le_refl _))
   have Od := yH (own_belowR Ox.out LD.out)
   have Ld := yH (below_chain Lx.out LD.out)
   have Rd := yH (Rx.out.tbelow LD.out)
   have Q1 := yH (show wD.rangeAt w1'.heap.size 0 (keyL K) by have := KC.out.range; rwa [toArr] at this)
   have hlb : l.length ≤ 1000000000 := by have := HXl.out; omega
   clear KA CA GA KC GC Ox Lx Rx hen
   by_cases hn : n = 0
   ·subst hn
    go_wp2_with fail
    go_roundg todo'.length
    case measure => rw [HK.out, Px.out.length_eq, List.length_cons]; omega
    case rel =>
     obtain ⟨done, h1, h2⟩ := Wx.out
     refine ⟨l, todo', rfl, Rd.out, Od.out, Ld.out, done ++ [(K, 0)], ?_, ?_⟩
     ·rw [List.append_assoc]
      exact h1.trans (List.Perm.append_left _ Px.out)
     ·rw [h2]; unfold nz; rw [List.filter_append]; simp
   ·have en : (n == 0) = false := beq_eq_false_iff_ne.2 hn
    have HN := yH hn
    clear hn
    go_wp2_with (first
     | ((with_reducible show wpList _ _ _ (_ :: _) _ _); refine wpList_load_mid rfl 179 (.tmp 4) rfl w1'.heap.size 0 rfl (keyL K) _ Q1.out Tryz.underlying179 rfl (keyL_info _) ?_)
     | ((with_reducible show wpList _ _ _ (_ :: _) _ _); refine wpl_mk rfl 368 #[(0, .tmp 16), (1, .tmp 17)] rfl [(0, .agg (keyL K).toArray), (1, .int .i64 n)] rfl _ (built_cn K n) ?_)
     | ((with_reducible show wpList _ _ _ (_ :: _) _ _); refine wpl_lit_cn rfl (.tmp 18) rfl (cnOf (K, n)) rfl ?_; intro wE hk hg hz; have KE := yH hk; have GE := yH hg; clear hk hg hz; have LE := yH (show Below wD.heap.size wD wE from bl_n (Below.refl _ _) GE.out); have Oe := yH (own_belowR Od.out LE.out); have Le := yH (below_chain Ld.out LE.out))
     | ((with_reducible show wpList _ _ _ (_ :: _) _ _); refine wpl_app_cn rfl (.tmp 15) (.tmp 19) rfl w.heap.size u3 l rfl Oe.out _ (cnOf (K, n)) rfl KE.out hlb Le.out.size ?_; intro v' wF ho hg; have OF := yH ho; have GF := yH hg; clear ho hg))
    go_roundg todo'.length
    case measure => rw [HK.out, Px.out.length_eq, List.length_cons]; omega
    case rel =>
     obtain ⟨done, h1, h2⟩ := Wx.out
     have Re := Rd.out.tbelow LE.out
     have hne := own_ne_iter Re Oe.out
     refine ⟨l ++ [cnOf (K, n)], todo', rfl, Re.kept GF.out (fun e => hne.2 e.symm) (fun e => hne.1 e.symm), OF.out, Le.out.grown GF.out Le.out.size (fun k hk => (own_at Oe.out k hk).1), done ++ [(K, n)], ?_, ?_⟩
     ·rw [List.append_assoc]
      exact h1.trans (List.Perm.append_left _ Px.out)
     ·rw [h2]; unfold nz; rw [List.filter_append, List.map_append]; simp [HN.out]
end Go.Proofs.YtffalfacakdhkaaGreatDoor
namespace Go.Proofs.YtffalfacakdhkaaGreatDoor
open Go.RowKit Go.Maps Go.Sort Go.Shelf
set_option linter.unusedVariables false
set_option linter.unusedSimpArgs false

def valF (S : SuM) (K : Key) : Int := (aget S K).getD 0
def addS (S : SuM) (K : Key) (d : Int) : SuM := aput S K (valF S K + d)
def sumF (l : SuM) : SuM := l.foldl (fun S p => addS S p.1 p.2) []
theorem sumF_snoc (l : SuM) (p : Key × Int) : sumF (l ++ [p]) = addS (sumF l) p.1 p.2 := by simp [sumF, List.foldl_append]
theorem valF_add (S : SuM) (K L : Key) (d : Int) : valF (addS S K d) L = if K = L then valF S K + d else valF S L := by
 unfold valF addS
 rw [aget_put]
 split <;> rfl
theorem addS_len (S : SuM) (K : Key) (d : Int) : (addS S K d).length ≤ S.length + 1 := by
 unfold addS aput
 rw [List.length_cons]
 have := adel_le S K
 omega
theorem foldS_facts (B : Nat) : ∀ (l S : SuM) (n : Nat), S.length ≤ n → (∀ K, -(B * n : Int) ≤ valF S K ∧ valF S K ≤ (B * n : Int)) → (∀ p ∈ l, -(B : Int) ≤ p.2 ∧ p.2 ≤ (B : Int)) →
  (l.foldl (fun S p => addS S p.1 p.2) S).length ≤ n + l.length ∧ ∀ K, -(B * (n + l.length : Nat) : Int) ≤ valF (l.foldl (fun S p => addS S p.1 p.2) S) K ∧ valF (l.foldl (fun S p => addS S p.1 p.2) S) K ≤ (B * (n + l.length : Nat) : Int)
 | [], S, n, h1, h2, _ => ⟨by simpa using h1, by simpa using h2⟩
 | p :: l, S, n, h1, h2, h3 => by
  have hp := h3 p (by simp)
  have := foldS_facts B l (addS S p.1 p.2) (n + 1) (by have := addS_len S p.1 p.2; omega) (fun K => by
   rw [valF_add]
   have h4 := h2 K
   have h5 := h2 p.1
   have e : (B * (n + 1 : Nat) : Int) = B * n + B := by push_cast; rw [Int.mul_add, Int.mul_one]
   rw [e]
   split <;> omega) (fun q hq => h3 q (by simp [hq]))
  rw [List.foldl_cons, List.length_cons, show n + (l.length + 1) = n + 1 + l.length by omega]
  exact this
theorem sumF_facts (B : Nat) (l : SuM) (h : ∀ p ∈ l, -(B : Int) ≤ p.2 ∧ p.2 ≤ (B : Int)) : (sumF l).length ≤ l.length ∧ ∀ K, -(B * l.length : Int) ≤ valF (sumF l) K ∧ valF (sumF l) K ≤ (B * l.length : Int) := by
 have := foldS_facts B l [] 0 (Nat.le_refl _) (fun K => by simp [valF, aget]) h
 rw [Nat.zero_add] at this
 exact this
section
variable {b : Nat} {l : List Oper} {Q : Exit → Act → World → Prop} {S : Nat → World → Prop}
theorem qs_sum {o : Oper} {r : List (Oper × Option Nat)} {k m : Nat} {a : Act} {w : World} (hw : Region.wanted o (yielded l.toArray a.tmps) = true) (t : TypeId) (mm x : Operand) (ho : o.op = .lookup t mm x false) (ht : Tryz.prog.underlying t = some (.map 179 3))
  (hm : a.eval mm = .map (some b)) (X : Key) (hx : a.eval x = vKey X) (n : Int) (hS : ∀ j w, k ≤ j → j ≤ m → S j w → ∃ M : SuM, MapIs Tryz.prog 179 vKey klK (Value.int .i64) w b M ∧ valF M X = n)
  (h : wpQs Tryz.prog l Q S r k (a.put o.dst (.int .i64 n)) w) : wpQs Tryz.prog l Q S ((o, some m) :: r) k a w :=
 ⟨_, .inl ⟨hw, fun w' ⟨j, h1, h2, h3⟩ => by
  obtain ⟨M, hM, hn⟩ := hS j w' h1 h2 h3
  have hrun := hM.look keyed_key ht (Tryz.zeroValue3 w') (klK_inj' X) (keyOf_key X)
  have e : ((aget M X).map (Value.int .i64)).getD (.int .i64 0) = .int .i64 n := by
   rw [← hn]
   unfold valF
   cases aget M X <;> rfl
  rw [e] at hrun
  unfold execOp
  simp only [ho, hm, hx, Sem.run_bind, hrun, Result.andThen_ok, Sem.run_pure]⟩, h⟩
end
/-- A slice of structs that is read: where an element lies. -/
theorem src_part {α : Type} {enc : α → List Value} {sz : Nat} (hk : ∀ x, (enc x).length = sz) {w : World} {A : Option Addr} {n c : Nat} {l : List α} (h : Src w sz (.slice A n c) n (l.flatMap enc)) (hl : l.length = n) {j : Nat} (hj : j < l.length) :
  ∃ b off, A = some ⟨b, off, none⟩ ∧ w.rangeAt b (off + j * sz) (enc (l[j]'hj)) := by
 obtain ⟨A', c', e, hlen, hc⟩ := h
 injection e with e1 e2 e3
 subst e1
 obtain ⟨b, off, e, hlt, hcell⟩ := hc (by omega)
 refine ⟨b, off, e, fun i v hi => ?_⟩
 rw [Nat.add_assoc]
 refine hcell (j * sz + i) v ?_
 have key : ∀ (l : List α) (q : Nat) (hq : q < l.length) (i : Nat), i < sz → (l.flatMap enc)[q * sz + i]? = (enc (l[q]'hq))[i]? := by
  intro l
  induction l with
  | nil => intro q hq; simp at hq
  | cons x l ih =>
   intro q hq i hi
   rw [List.flatMap_cons]
   rcases q with _ | q
   ·rw [Nat.zero_mul, Nat.zero_add, List.getElem?_append_left (by rw [hk]; exact hi)]; rfl
   ·rw [List.getElem?_append_right (by rw [hk, Nat.succ_mul]; omega), hk]
    have := ih q (by simpa using hq) i hi
    rw [show (q + 1) * sz + i - sz = q * sz + i by rw [Nat.succ_mul]; omega, this]
    rfl
 rw [key l j hj i (by
  rcases Nat.lt_or_ge i sz with h | h
  ·exact h
  ·rw [List.getElem?_eq_none (by rw [hk]; exact h)] at hi; cases hi)]
 exact hi
def cntL (l : List It) : SuM := (l.filter (fun i => i.kind == 2)).map (fun i => (i.sl.key, 1))
/-- How many slices have each key. -/
def countC (l : List It) : List Cn := rowCn (sumF (cntL l))
theorem cntL_take {l : List It} {j : Nat} (hj : j < l.length) : cntL (l.take (j + 1)) = cntL (l.take j) ++ (if (l[j]'hj).kind == 2 then [((l[j]'hj).sl.key, 1)] else []) := by
 unfold cntL
 rw [List.take_succ_eq_append_getElem hj, List.filter_append, List.map_append]
 congr 1
 cases hk : (l[j]'hj).kind == 2 <;> simp [hk]
theorem cntL_len (l : List It) : (cntL l).length ≤ l.length := by unfold cntL; rw [List.length_map]; exact List.length_filter_le _ _
theorem cntL_one (l : List It) : ∀ p ∈ cntL l, -((1 : Nat) : Int) ≤ p.2 ∧ p.2 ≤ ((1 : Nat) : Int) := by
 intro p hp
 obtain ⟨i, _, rfl⟩ := List.mem_map.1 hp
 simp
def CtI (w : World) (l : List It) (n : Nat) (k : Nat) (iv : Value) (wr : World) : Prop :=
 ∃ i : Nat, iv = .int .i64 (i : Int) ∧ i ≤ n ∧ i + k ≤ n ∧ n ≤ i + k ∧ MapIs Tryz.prog 179 vKey klK (Value.int .i64) wr w.heap.size (sumF (cntL (l.take i))) ∧ Below w.heap.size w wr
def CnPost (L : List Cn) (w : World) (e : Ending) (w' : World) : Prop := ∃ v, e = .returned v ∧ w'.ownsRow w.heap.size 368 33 v L.length (cnsC L) ∧ Below w.heap.size w w'
theorem itC_slkey (i : It) : ((itC i).drop 39).take (keyL i.sl.key).length = keyL i.sl.key := by
 have e : itC i = (.int .u8 i.kind :: (keyL i.key ++ (plC i.pl ++ [.int .i64 i.snap, .int .i64 i.unit]))) ++ (keyL i.sl.key ++ [.int .i64 i.sl.off, .int .i64 i.sl.mask]) := by simp [itC, slC]
 rw [e, List.drop_left' (by simp [keyL_len, plC_len]), List.take_left]
theorem itC_kind (i : It) : (itC i)[0]? = some (.int .u8 i.kind) := rfl
set_option maxRecDepth 100000 in
set_option maxHeartbeats 2000000 in
theorem count_any {w : World} {A : Option Addr} {n c : Nat} {l : List It} (h : Src w 73 (.slice A n c) n (itsC l)) (hl : l.length = n) (hn : n ≤ 100000000) : Calls Tryz.prog 247 #[.slice A n c] w (CnPost (countC l) w) := by
 have H := yH h
 have HL := yH hl
 clear h hl
 have hmm := @run_makeMap Tryz.prog
 go_enter Tryz.func247, Tryz.ntmps247
 go_wp2_with fail
 obtain ⟨w1, hw1⟩ : ∃ w1, w1 = w.alloc (Obj.map #[] 0) := ⟨_, rfl⟩
 have M1 := yH (show MapIs Tryz.prog 179 vKey klK (Value.int .i64) w1 w.heap.size ([] : SuM) by rw [hw1]; exact MapIs.made w _ _ _ _ _)
 have L1 := yH (show Below w.heap.size w w1 by rw [hw1]; exact (Below.refl _ _).alloc (Nat.le_refl _) _)
 rw [← hw1]
 clear hw1 hmm
 go_loopg [9] n (fun k iv wr => CtI w l n k iv wr)
 case atStart => exact ⟨0, rfl, by omega, by omega, by omega, M1.out, L1.out⟩
 case round =>
  obtain ⟨i, rfl, i1, i2, i3, hm, hb⟩ := hrel
  have M := yH hm
  have LB := yH hb
  clear hm hb M1 L1
  by_cases hi : i < n
  ·have hiI : (i : Int) < (n : Int) := by omega
   have hil : i < l.length := by rw [HL.out]; exact hi
   obtain ⟨b, off, hA, hr⟩ := src_part itC_len (H.out.below LB.out) HL.out hil
   have HTk := yH (cntL_take hil)
   generalize l[i] = x at hr HTk
   subst hA
   have Rg := yH hr
   clear hr hil
   go_upto_region 5 with (first
    | ((with_reducible show wpList _ _ _ (_ :: _) _ _); refine wpl_sidx rfl 223 (.tmp 7) (.tmp 9) rfl Tryz.underlying223 Tryz.sizeOf231 b off n c i rfl rfl hi ?_)
    | ((with_reducible show wpList _ _ _ (_ :: _) _ _); refine wpList_load_mid rfl 231 (.tmp 11) rfl b (off + i * 73) rfl (itC x) _ Rg.out Tryz.underlying231 rfl (itC_info x) ?_)
    | ((with_reducible show wpList _ _ _ (_ :: _) _ _); refine wpl_alloc rfl 231 rfl Tryz.zeroValue231 73 zero_It_len ?_; intro wa cs hk hc hg hz; have K := yH hk; have C := yH hc; have G := yH hg; clear hk hc hg hz)
    | ((with_reducible show wpList _ _ _ (_ :: _) _ _); refine wpl_over rfl 231 (.tmp 5) (.tmp 12) rfl wr.heap.size (itC x) rfl rfl _ cs K.out (itC_info x) (by rw [itC_len, C.out]) (itC_one x) ?_; intro wb hk hg hz; have K2 := yH hk; have L2 := yH (bl_g (bl_n (Below.refl _ _) G.out) hg (Nat.le_refl _)); clear hk hg hz))
   have M2 := yH (M.out.below L2.out M.out.lt)
   have LB2 := yH (below_chain LB.out L2.out)
   have ck := K2.out.cell (i := 0) (by rw [List.getElem?_toArray]; exact itC_kind x)
   have Q := yH (K2.out.part 39 (keyL x.sl.key) (itC_slkey x))
   by_cases hk : x.kind = 2
   ·have hk2 : (x.kind == 2) = true := beq_iff_eq.2 hk
    have HTk2 := yH (show cntL (l.take (i + 1)) = cntL (l.take i) ++ [(x.sl.key, 1)] by rw [HTk.out, hk2]; rfl)
    have HF := yH (sumF_facts 1 (cntL (l.take i)) (cntL_one _))
    have hlen : (cntL (l.take i)).length ≤ i := by have := cntL_len (l.take i); rw [List.length_take] at this; omega
    have HN := yH (show (sumF (cntL (l.take i))).length < maxLen by have := HF.out.1; unfold maxLen; omega)
    obtain ⟨m0, hm0⟩ : ∃ m, m = valF (sumF (cntL (l.take i))) x.sl.key := ⟨_, rfl⟩
    have hmb : -100000000 ≤ m0 ∧ m0 ≤ 100000000 := by have := HF.out.2 x.sl.key; rw [hm0]; omega
    obtain ⟨hmb1, hmb2⟩ := hmb
    have HM0 := yH hm0
    clear hk hlen hm0
    go_wp2_with fail
    refine wp_region_qs (fun j0 w' => j0 ≤ 1 → (∃ M : SuM, MapIs Tryz.prog 179 vKey klK (Value.int .i64) w' w.heap.size M ∧ valF M x.sl.key = m0) ∧ w'.rangeAt wr.heap.size 39 (keyL x.sl.key)) [(0, some 0), (1, some 0), (2, some 0), (3, some 0), (4, some 1), (5, some 1), (6, none), (7, some 1), (8, none)] (by kernel_rfl) (by kernel_rfl) (by kernel_rfl) (by kernel_rfl) (by kernel_rfl) (fun _ _ _ _ _ h => h) (fun _ => ⟨⟨_, M2.out.drew, HM0.out.symm⟩, Q.out⟩) ?_
    simp only [yD, yE, yF, yG]
    (repeat (first | ((first | (refine qs_row (by rfl) 179 (.tmp 18) rfl wr.heap.size 39 rfl (keyL x.sl.key) _ (fun j w' _ h2 h => (h (by omega)).2) Tryz.underlying179 rfl (keyL_info _) ?_) | (refine qs_sum (by rfl) 454 (.tmp 16) (.tmp 19) rfl Tryz.underlying454 rfl x.sl.key rfl m0 (fun j w' _ h2 h => (h (by omega)).1) ?_)); simp only [Act.put, yA, yB, yC]) | (refine qs_now (v := ?_) (by rfl) ?_ ?_; rotate_left 1; (· (intro w' hS; go_simp; (try (simp only [↓IntWalk.iteOmega]; go_simp)); (try simp (disch := omega) only [IntWalk.i64_in]); try with_reducible rfl)); simp only [Act.put, yA, yB, yC]) | (refine qs_run (v := ?_) (by rfl) ?_ ?_; rotate_left 1; (· (intro j w' hS; go_simp; (try (simp only [↓IntWalk.iteOmega]; go_simp)); (try simp (disch := omega) only [IntWalk.i64_in]); try with_reducible rfl)); simp only [Act.put, yA, yB, yC]) | (refine qs_mid (v := ?_) (by rfl) ?_ ?_; rotate_left 1; (· (intro j w' hj1 hj2 hS; go_simp; (try (simp only [↓IntWalk.iteOmega]; go_simp)); (try simp (disch := omega) only [IntWalk.i64_in]); try with_reducible rfl)); simp only [Act.put, yA, yB, yC]) | (refine qs_skip (by rfl) ?_; simp only [Act.put, yA, yB, yC])))
    refine qs_act ?_
    go_wp2_with ((with_reducible show wpList _ _ _ (_ :: _) _ _); refine wpl_mentry2 rfl 454 (.tmp 16) (.tmp 19) rfl keyed_key keyLaw_key Tryz.underlying454 M2.out.drew HN.out rfl x.sl.key rfl Tryz.zeroValue3 (klK_inj' _) (keyOf_key _) 0 rfl ?_; intro v0 st w3 hg hm hst; have G3 := yH hg; have M3 := yH hm; have ST := yH hst; clear hg hm hst)
    have hne := blk_ne_map M2.out K2.out
    have K3 := yH (K2.out.drew.grown G3.out (by simp; exact hne))
    have L3 := yH (show Below w.heap.size w w3 from bl_g LB2.out.drew G3.out (Nat.le_refl _))
    have hv : valF (aput (sumF (cntL (l.take i))) x.sl.key ((aget (sumF (cntL (l.take i))) x.sl.key).getD 0)) x.sl.key = m0 := by
     unfold valF
     rw [aget_put, if_pos rfl]
     exact HM0.out.symm
    have HV := yH hv
    clear hv hne
    refine ⟨fun _ => ⟨⟨_, M3.out, HV.out⟩, K3.out.part 39 (keyL x.sl.key) (itC_slkey x)⟩, ?_⟩
    (repeat (first | ((first | (refine qs_row (by rfl) 179 (.tmp 18) rfl wr.heap.size 39 rfl (keyL x.sl.key) _ (fun j w' _ h2 h => (h (by omega)).2) Tryz.underlying179 rfl (keyL_info _) ?_) | (refine qs_sum (by rfl) 454 (.tmp 16) (.tmp 19) rfl Tryz.underlying454 rfl x.sl.key rfl m0 (fun j w' _ h2 h => (h (by omega)).1) ?_)); simp only [Act.put, yA, yB, yC]) | (refine qs_now (v := ?_) (by rfl) ?_ ?_; rotate_left 1; (· (intro w' hS; go_simp; (try (simp only [↓IntWalk.iteOmega]; go_simp)); (try simp (disch := omega) only [IntWalk.i64_in]); try with_reducible rfl)); simp only [Act.put, yA, yB, yC]) | (refine qs_run (v := ?_) (by rfl) ?_ ?_; rotate_left 1; (· (intro j w' hS; go_simp; (try (simp only [↓IntWalk.iteOmega]; go_simp)); (try simp (disch := omega) only [IntWalk.i64_in]); try with_reducible rfl)); simp only [Act.put, yA, yB, yC]) | (refine qs_mid (v := ?_) (by rfl) ?_ ?_; rotate_left 1; (· (intro j w' hj1 hj2 hS; go_simp; (try (simp only [↓IntWalk.iteOmega]; go_simp)); (try simp (disch := omega) only [IntWalk.i64_in]); try with_reducible rfl)); simp only [Act.put, yA, yB, yC]) | (refine qs_skip (by rfl) ?_; simp only [Act.put, yA, yB, yC])))
    refine qs_act ?_
    go_wp2_with ((with_reducible show wpList _ _ _ (_ :: _) _ _); refine wpl_mestore rfl 454 (.tmp 16) (.tmp 23) (.tmp 21) rfl (m0 + 1) rfl rfl rfl ST.out ?_; intro w4 hm hg; have M4 := yH hm; have G4 := yH hg; clear hm hg)
    refine ⟨fun h => absurd h (by omega), ?_⟩
    refine qs_nil ?_
    go_wp2_with fail
    go_roundg (gk - 1)
    case measure => omega
    case rel =>
     refine ⟨i + 1, by congr 1, by omega, by omega, by omega, ?_, bl_g L3.out G4.out (Nat.le_refl _)⟩
     rw [HTk2.out, sumF_snoc]
     unfold addS
     rw [← HM0.out]
     exact M4.out
   ·have hk2 : (x.kind == 2) = false := beq_eq_false_iff_ne.2 hk
    have HTk2 := yH (show cntL (l.take (i + 1)) = cntL (l.take i) by rw [HTk.out, hk2]; simp)
    clear hk
    go_wp2_with fail
    go_roundg (gk - 1)
    case measure => omega
    case rel => exact ⟨i + 1, by congr 1, by omega, by omega, by omega, by rw [HTk2.out]; exact M2.out, LB2.out⟩
  ·have hiI : ¬ (i : Int) < (n : Int) := by omega
   have hall := yH (show l.take i = l from List.take_of_length_le (by rw [HL.out]; omega))
   have HF := yH (sumF_facts 1 (cntL (l.take i)) (cntL_one _))
   have HSn := yH (show (sumF (cntL (l.take i))).length ≤ 100000000 by
    have := HF.out.1
    have := cntL_len (l.take i)
    rw [List.length_take] at this
    omega)
   go_wp2_with (go_at_call 319; refine (row_any M.out HSn.out).mono ?_; rintro e w2 ⟨v, rfl, ho, hb⟩; have O := yH ho; have L2 := yH hb; clear ho hb)
   go_ret
   have ho := O.out
   rw [hall.out] at ho
   exact ⟨_, rfl, own_loR ho LB.out.size, below_chain LB.out L2.out⟩
end Go.Proofs.YtffalfacakdhkaaGreatDoor
namespace Go.Proofs.YtffalfacakdhkaaGreatDoor
open Go.RowKit Go.Maps Go.Sort Go.Shelf
set_option linter.unusedVariables false
set_option linter.unusedSimpArgs false

def negL (a : List Cn) : SuM := a.map (fun c => (c.key, -c.ref))
def posL (a : List Cn) : SuM := a.map (fun c => (c.key, c.ref))
def deltaL (a b : List Cn) : SuM := negL a ++ posL b
/-- What is not the same. -/
def deltaC (a b : List Cn) : List Cn := rowCn (sumF (deltaL a b))
def RefsOk (a : List Cn) : Prop := a.length ≤ 1000000 ∧ ∀ c ∈ a, -1000000000 ≤ c.ref ∧ c.ref ≤ 1000000000
def DlI (w : World) (pre : SuM) (rest : SuM) (n : Nat) (k : Nat) (iv : Value) (wr : World) : Prop :=
 ∃ i : Nat, iv = .int .i64 (i : Int) ∧ i ≤ n ∧ i + k ≤ n ∧ n ≤ i + k ∧ MapIs Tryz.prog 179 vKey klK (Value.int .i64) wr w.heap.size (sumF (pre ++ rest.take i)) ∧ Below w.heap.size w wr
theorem cnC_ref (c : Cn) : (cnC c)[32]? = some (.int .i64 c.ref) := by
 unfold cnC
 rw [List.getElem?_append_right (by rw [keyL_len]; omega), keyL_len]
 rfl
theorem cnC_key (c : Cn) : ((cnC c).drop 0).take (keyL c.key).length = keyL c.key := by
 unfold cnC
 rw [List.drop_zero, List.take_left]
theorem delta_bound {pre rest : SuM} (h : ∀ p ∈ pre ++ rest, -((1000000000 : Nat) : Int) ≤ p.2 ∧ p.2 ≤ ((1000000000 : Nat) : Int)) (hl : (pre ++ rest).length ≤ 2000000) (i : Nat) : (sumF (pre ++ rest.take i)).length ≤ 2000000 ∧ ∀ K, -2000000000000000 ≤ valF (sumF (pre ++ rest.take i)) K ∧ valF (sumF (pre ++ rest.take i)) K ≤ 2000000000000000 := by
 have h1 := sumF_facts 1000000000 (pre ++ rest.take i) (fun p hp => h p (by
  rcases List.mem_append.1 hp with hp | hp
  ·exact List.mem_append_left _ hp
  ·exact List.mem_append_right _ (List.mem_of_mem_take hp)))
 have h2 : (pre ++ rest.take i).length ≤ 2000000 := by
  rw [List.length_append] at hl ⊢
  rw [List.length_take]
  omega
 refine ⟨by omega, fun K => ?_⟩
 have := h1.2 K
 have h3 : ((1000000000 : Nat) : Int) * ((pre ++ rest.take i).length : Int) ≤ 2000000000000000 := by omega
 omega
set_option maxRecDepth 100000 in
set_option maxHeartbeats 4000000 in
theorem delta_any {w : World} {A B : Option Addr} {n c m d : Nat} {l r : List Cn} (h : Src w 33 (.slice A n c) n (cnsC l)) (hl : l.length = n) (h' : Src w 33 (.slice B m d) m (cnsC r)) (hr : r.length = m) (hL : RefsOk l) (hR : RefsOk r) :
  Calls Tryz.prog 248 #[.slice A n c, .slice B m d] w (CnPost (deltaC l r) w) := by
 have H1 := yH h
 have HL1 := yH hl
 have H2 := yH h'
 have HL2 := yH hr
 have hn : n ≤ 1000000 := by have := hL.1; omega
 have hm : m ≤ 1000000 := by have := hR.1; omega
 have HRf := yH (show ∀ c ∈ l ++ r, -1000000000 ≤ c.ref ∧ c.ref ≤ 1000000000 from fun c hc => by
  rcases List.mem_append.1 hc with hc | hc
  ·exact hL.2 c hc
  ·exact hR.2 c hc)
 have B1 := yH (fun i => delta_bound (pre := []) (rest := negL l) (fun p hp => by
  rw [List.nil_append] at hp
  obtain ⟨c, hc, rfl⟩ := List.mem_map.1 hp
  have := hL.2 c hc
  first | omega | (simp only; omega)) (by first | (simp [negL]; done) | (simp [negL]; omega)) i)
 have B2 := yH (fun i => delta_bound (pre := negL l) (rest := posL r) (fun p hp => by
  rcases List.mem_append.1 hp with hp | hp
  ·obtain ⟨c, hc, rfl⟩ := List.mem_map.1 hp
   have := hL.2 c hc
   simp only
   omega
  ·obtain ⟨c, hc, rfl⟩ := List.mem_map.1 hp
   have := hR.2 c hc
   simp only
   omega) (by simp [negL, posL]; omega) i)
 clear h hl h' hr hL hR
 have hmm := @run_makeMap Tryz.prog
 go_enter Tryz.func248, Tryz.ntmps248
 go_wp2_with fail
 obtain ⟨w1, hw1⟩ : ∃ w1, w1 = w.alloc (Obj.map #[] 0) := ⟨_, rfl⟩
 have M1 := yH (show MapIs Tryz.prog 179 vKey klK (Value.int .i64) w1 w.heap.size ([] : SuM) by rw [hw1]; exact MapIs.made w _ _ _ _ _)
 have L1 := yH (show Below w.heap.size w w1 by rw [hw1]; exact (Below.refl _ _).alloc (Nat.le_refl _) _)
 rw [← hw1]
 clear hw1 hmm
 go_loopg [13] n (fun k iv wr => DlI w [] (negL l) n k iv wr)
 case atStart => exact ⟨0, rfl, by omega, by omega, by omega, M1.out, L1.out⟩
 case round =>
  clear M1 L1
  obtain ⟨i, rfl, i1, i2, i3, hm, hb⟩ := hrel
  have M := yH hm
  have LB := yH hb
  clear hm hb
  by_cases hi : i < n
  ·have hiI : (i : Int) < (n : Int) := by omega
   have hil : i < l.length := by rw [HL1.out]; exact hi
   obtain ⟨b, off, hA, hr⟩ := src_part cnC_len (H1.out.below LB.out) HL1.out hil
   have HTk := yH (show [] ++ (negL l).take (i + 1) = ([] ++ (negL l).take i) ++ [(l[i].key, - l[i].ref)] by
    unfold negL
    rw [List.take_succ_eq_append_getElem (by rw [List.length_map]; exact hil), List.getElem_map, List.append_assoc]
    all_goals first | rfl | (simp; done))
   have hxr := HRf.out l[i] (by simp)
   generalize l[i] = x at hr HTk hxr
   obtain ⟨hxr1, hxr2⟩ := hxr
   subst hA
   have Rg := yH hr
   clear hr hil
   go_upto_region 5 with (first
    | ((with_reducible show wpList _ _ _ (_ :: _) _ _); refine wpl_sidx rfl 364 (.tmp 11) (.tmp 13) rfl Tryz.underlying364 Tryz.sizeOf368 b off n c i rfl rfl hi ?_)
    | ((with_reducible show wpList _ _ _ (_ :: _) _ _); refine wpList_load_mid rfl 368 (.tmp 15) rfl b (off + i * 33) rfl (cnC x) _ Rg.out Tryz.underlying368 rfl (cnC_info x) ?_)
    | ((with_reducible show wpList _ _ _ (_ :: _) _ _); refine wpl_alloc rfl 368 rfl Tryz.zeroValue368 33 rfl ?_; intro wa cs hk hc hg hz; have K := yH hk; have C := yH hc; have G := yH hg; clear hk hc hg hz)
    | ((with_reducible show wpList _ _ _ (_ :: _) _ _); refine wpl_over rfl 368 (.tmp 7) (.tmp 16) rfl wr.heap.size (cnC x) rfl rfl _ cs K.out (cnC_info x) (by rw [cnC_len, C.out]) (cnC_one x) ?_; intro wb hk hg hz; have K2 := yH hk; have L2 := yH (bl_g (bl_n (Below.refl _ _) G.out) hg (Nat.le_refl _)); clear hk hg hz))
   have M2 := yH (M.out.below L2.out M.out.lt)
   have LB2 := yH (below_chain LB.out L2.out)
   have ck := K2.out.cell (i := 32) (by rw [List.getElem?_toArray]; exact cnC_ref x)
   have Q := yH (K2.out.part 0 (keyL x.key) (cnC_key x))
   have HF := yH (B1.out i)
   have HN := yH (show (sumF ([] ++ (negL l).take i)).length < maxLen by have := HF.out.1; unfold maxLen; omega)
   obtain ⟨m0, hm0⟩ : ∃ m, m = valF (sumF ([] ++ (negL l).take i)) x.key := ⟨_, rfl⟩
   have hmb : -2000000000000000 ≤ m0 ∧ m0 ≤ 2000000000000000 := by have := HF.out.2 x.key; rw [hm0]; exact this
   obtain ⟨hmb1, hmb2⟩ := hmb
   have HM0 := yH hm0
   clear hm0
   refine wp_region_qs (fun j0 w' => j0 ≤ 1 → ((∃ M : SuM, MapIs Tryz.prog 179 vKey klK (Value.int .i64) w' w.heap.size M ∧ valF M x.key = m0) ∧ w'.rangeAt wr.heap.size 0 (keyL x.key)) ∧ w'.cell? ⟨wr.heap.size, 32, none⟩ = some (.int .i64 x.ref)) [(0, some 0), (1, some 0), (2, some 0), (3, some 1), (4, some 0), (5, some 0), (6, some 1), (7, none), (8, some 1), (9, none)] (by kernel_rfl) (by kernel_rfl) (by kernel_rfl) (by kernel_rfl) (by kernel_rfl) (fun _ _ _ _ _ h => h) (fun _ => ⟨⟨⟨_, M2.out.drew, HM0.out.symm⟩, Q.out⟩, ck⟩) ?_
   simp only [yD, yE, yF, yG]
   (repeat (first | ((first | (refine qs_row (by rfl) 179 (.tmp 18) rfl wr.heap.size 0 rfl (keyL x.key) _ (fun j w' _ h2 h => (h (by omega)).1.2) Tryz.underlying179 rfl (keyL_info _) ?_) | (refine qs_sum (by rfl) 454 (.tmp 17) (.tmp 19) rfl Tryz.underlying454 rfl x.key rfl m0 (fun j w' _ h2 h => (h (by omega)).1.1) ?_) | (refine qs_mid (v := .int .i64 x.ref) (by rfl) ?_ ?_; rotate_left 1; (· (intro j w' h1 h2 h; have h3 := (h (by omega)).2; clear h; go_simp; done)))); simp only [Act.put, yA, yB, yC]) | (refine qs_now (v := ?_) (by rfl) ?_ ?_; rotate_left 1; (· (intro w' hS; go_simp; (try (simp only [↓IntWalk.iteOmega]; go_simp)); (try simp (disch := omega) only [IntWalk.i64_in]); try with_reducible rfl)); simp only [Act.put, yA, yB, yC]) | (refine qs_run (v := ?_) (by rfl) ?_ ?_; rotate_left 1; (· (intro j w' hS; go_simp; (try (simp only [↓IntWalk.iteOmega]; go_simp)); (try simp (disch := omega) only [IntWalk.i64_in]); try with_reducible rfl)); simp only [Act.put, yA, yB, yC]) | (refine qs_mid (v := ?_) (by rfl) ?_ ?_; rotate_left 1; (· (intro j w' hj1 hj2 hS; go_simp; (try (simp only [↓IntWalk.iteOmega]; go_simp)); (try simp (disch := omega) only [IntWalk.i64_in]); try with_reducible rfl)); simp only [Act.put, yA, yB, yC]) | (refine qs_skip (by rfl) ?_; simp only [Act.put, yA, yB, yC])))
   refine qs_act ?_
   go_wp2_with ((with_reducible show wpList _ _ _ (_ :: _) _ _); refine wpl_mentry2 rfl 454 (.tmp 17) (.tmp 19) rfl keyed_key keyLaw_key Tryz.underlying454 M2.out.drew HN.out rfl x.key rfl Tryz.zeroValue3 (klK_inj' _) (keyOf_key _) 0 rfl ?_; intro v0 st w3 hg hm hst; have G3 := yH hg; have M3 := yH hm; have ST := yH hst; clear hg hm hst)
   have hne := blk_ne_map M2.out K2.out
   have K3 := yH (K2.out.drew.grown G3.out (by simp; exact hne))
   have L3 := yH (show Below w.heap.size w w3 from bl_g LB2.out.drew G3.out (Nat.le_refl _))
   have hv : valF (aput (sumF ([] ++ (negL l).take i)) x.key ((aget (sumF ([] ++ (negL l).take i)) x.key).getD 0)) x.key = m0 := by
    unfold valF
    rw [aget_put, if_pos rfl]
    exact HM0.out.symm
   have HV := yH hv
   clear hv hne
   refine ⟨fun _ => ⟨⟨⟨_, M3.out, HV.out⟩, K3.out.part 0 (keyL x.key) (cnC_key x)⟩, K3.out.cell (i := 32) (by rw [List.getElem?_toArray]; exact cnC_ref x)⟩, ?_⟩
   (repeat (first | ((first | (refine qs_row (by rfl) 179 (.tmp 18) rfl wr.heap.size 0 rfl (keyL x.key) _ (fun j w' _ h2 h => (h (by omega)).1.2) Tryz.underlying179 rfl (keyL_info _) ?_) | (refine qs_sum (by rfl) 454 (.tmp 17) (.tmp 19) rfl Tryz.underlying454 rfl x.key rfl m0 (fun j w' _ h2 h => (h (by omega)).1.1) ?_) | (refine qs_mid (v := .int .i64 x.ref) (by rfl) ?_ ?_; rotate_left 1; (· (intro j w' h1 h2 h; have h3 := (h (by omega)).2; clear h; go_simp; done)))); simp only [Act.put, yA, yB, yC]) | (refine qs_now (v := ?_) (by rfl) ?_ ?_; rotate_left 1; (· (intro w' hS; go_simp; (try (simp only [↓IntWalk.iteOmega]; go_simp)); (try simp (disch := omega) only [IntWalk.i64_in]); try with_reducible rfl)); simp only [Act.put, yA, yB, yC]) | (refine qs_run (v := ?_) (by rfl) ?_ ?_; rotate_left 1; (· (intro j w' hS; go_simp; (try (simp only [↓IntWalk.iteOmega]; go_simp)); (try simp (disch := omega) only [IntWalk.i64_in]); try with_reducible rfl)); simp only [Act.put, yA, yB, yC]) | (refine qs_mid (v := ?_) (by rfl) ?_ ?_; rotate_left 1; (· (intro j w' hj1 hj2 hS; go_simp; (try (simp only [↓IntWalk.iteOmega]; go_simp)); (try simp (disch := omega) only [IntWalk.i64_in]); try with_reducible rfl)); simp only [Act.put, yA, yB, yC]) | (refine qs_skip (by rfl) ?_; simp only [Act.put, yA, yB, yC])))
   refine qs_act ?_
   go_wp2_with ((with_reducible show wpList _ _ _ (_ :: _) _ _); refine wpl_mestore rfl 454 (.tmp 17) (.tmp 25) (.tmp 23) rfl (m0 - x.ref) rfl rfl rfl ST.out ?_; intro w4 hm hg; have M4 := yH hm; have G4 := yH hg; clear hm hg)
   refine ⟨fun h => absurd h (by omega), ?_⟩
   refine qs_nil ?_
   go_wp2_with fail
   go_roundg (gk - 1)
   case measure => omega
   case rel =>
    refine ⟨i + 1, by congr 1, by omega, by omega, by omega, ?_, bl_g L3.out G4.out (Nat.le_refl _)⟩
    rw [HTk.out, sumF_snoc]
    unfold addS
    rw [← HM0.out]
    exact M4.out
  ·have hiI : ¬ (i : Int) < (n : Int) := by omega
   have MA := yH (show MapIs Tryz.prog 179 vKey klK (Value.int .i64) wr w.heap.size (sumF (negL l ++ (posL r).take 0)) by
    have := M.out
    rw [List.nil_append, List.take_of_length_le (by unfold negL; rw [List.length_map, HL1.out]; omega)] at this
    rw [List.take_zero, List.append_nil]
    exact this)
   have LA := yH LB.out
   clear M LB
   go_wp2_with fail
   go_loopg [29] m (fun k iv wr => DlI w (negL l) (posL r) m k iv wr)
   case atStart => exact ⟨0, rfl, by omega, by omega, by omega, MA.out, LA.out⟩
   case round =>
    clear MA LA
    obtain ⟨i, rfl, i1, i2, i3, hm, hb⟩ := hrel
    have M := yH hm
    have LB := yH hb
    clear hm hb
    by_cases hi : i < m
    ·have hiI : (i : Int) < (m : Int) := by omega
     have hil : i < r.length := by rw [HL2.out]; exact hi
     obtain ⟨b, off, hA, hr⟩ := src_part cnC_len (H2.out.below LB.out) HL2.out hil
     have HTk := yH (show (negL l) ++ (posL r).take (i + 1) = ((negL l) ++ (posL r).take i) ++ [(r[i].key, id r[i].ref)] by
      unfold posL
      rw [List.take_succ_eq_append_getElem (by rw [List.length_map]; exact hil), List.getElem_map, List.append_assoc]
      all_goals first | rfl | (simp; done))
     have hxr := HRf.out r[i] (by simp)
     generalize r[i] = x at hr HTk hxr
     obtain ⟨hxr1, hxr2⟩ := hxr
     subst hA
     have Rg := yH hr
     clear hr hil
     go_upto_region 10 with (first
      | ((with_reducible show wpList _ _ _ (_ :: _) _ _); refine wpl_sidx rfl 364 (.tmp 27) (.tmp 29) rfl Tryz.underlying364 Tryz.sizeOf368 b off m d i rfl rfl hi ?_)
      | ((with_reducible show wpList _ _ _ (_ :: _) _ _); refine wpList_load_mid rfl 368 (.tmp 31) rfl b (off + i * 33) rfl (cnC x) _ Rg.out Tryz.underlying368 rfl (cnC_info x) ?_)
      | ((with_reducible show wpList _ _ _ (_ :: _) _ _); refine wpl_alloc rfl 368 rfl Tryz.zeroValue368 33 rfl ?_; intro wa cs hk hc hg hz; have K := yH hk; have C := yH hc; have G := yH hg; clear hk hc hg hz)
      | ((with_reducible show wpList _ _ _ (_ :: _) _ _); refine wpl_over rfl 368 (.tmp 9) (.tmp 32) rfl wr.heap.size (cnC x) rfl rfl _ cs K.out (cnC_info x) (by rw [cnC_len, C.out]) (cnC_one x) ?_; intro wb hk hg hz; have K2 := yH hk; have L2 := yH (bl_g (bl_n (Below.refl _ _) G.out) hg (Nat.le_refl _)); clear hk hg hz))
     have M2 := yH (M.out.below L2.out M.out.lt)
     have LB2 := yH (below_chain LB.out L2.out)
     have ck := K2.out.cell (i := 32) (by rw [List.getElem?_toArray]; exact cnC_ref x)
     have Q := yH (K2.out.part 0 (keyL x.key) (cnC_key x))
     have HF := yH (B2.out i)
     have HN := yH (show (sumF ((negL l) ++ (posL r).take i)).length < maxLen by have := HF.out.1; unfold maxLen; omega)
     obtain ⟨m0, hm0⟩ : ∃ m, m = valF (sumF ((negL l) ++ (posL r).take i)) x.key := ⟨_, rfl⟩
     have hmb : -2000000000000000 ≤ m0 ∧ m0 ≤ 2000000000000000 := by have := HF.out.2 x.key; rw [hm0]; exact this
     obtain ⟨hmb1, hmb2⟩ := hmb
     have HM0 := yH hm0
     clear hm0
     refine wp_region_qs (fun j0 w' => j0 ≤ 1 → ((∃ M : SuM, MapIs Tryz.prog 179 vKey klK (Value.int .i64) w' w.heap.size M ∧ valF M x.key = m0) ∧ w'.rangeAt wr.heap.size 0 (keyL x.key)) ∧ w'.cell? ⟨wr.heap.size, 32, none⟩ = some (.int .i64 x.ref)) [(0, some 0), (1, some 0), (2, some 0), (3, some 1), (4, some 0), (5, some 0), (6, some 1), (7, none), (8, some 1), (9, none)] (by kernel_rfl) (by kernel_rfl) (by kernel_rfl) (by kernel_rfl) (by kernel_rfl) (fun _ _ _ _ _ h => h) (fun _ => ⟨⟨⟨_, M2.out.drew, HM0.out.symm⟩, Q.out⟩, ck⟩) ?_
     simp only [yD, yE, yF, yG]
     (repeat (first | ((first | (refine qs_row (by rfl) 179 (.tmp 34) rfl wr.heap.size 0 rfl (keyL x.key) _ (fun j w' _ h2 h => (h (by omega)).1.2) Tryz.underlying179 rfl (keyL_info _) ?_) | (refine qs_sum (by rfl) 454 (.tmp 33) (.tmp 35) rfl Tryz.underlying454 rfl x.key rfl m0 (fun j w' _ h2 h => (h (by omega)).1.1) ?_) | (refine qs_mid (v := .int .i64 x.ref) (by rfl) ?_ ?_; rotate_left 1; (· (intro j w' h1 h2 h; have h3 := (h (by omega)).2; clear h; go_simp; done)))); simp only [Act.put, yA, yB, yC]) | (refine qs_now (v := ?_) (by rfl) ?_ ?_; rotate_left 1; (· (intro w' hS; go_simp; (try (simp only [↓IntWalk.iteOmega]; go_simp)); (try simp (disch := omega) only [IntWalk.i64_in]); try with_reducible rfl)); simp only [Act.put, yA, yB, yC]) | (refine qs_run (v := ?_) (by rfl) ?_ ?_; rotate_left 1; (· (intro j w' hS; go_simp; (try (simp only [↓IntWalk.iteOmega]; go_simp)); (try simp (disch := omega) only [IntWalk.i64_in]); try with_reducible rfl)); simp only [Act.put, yA, yB, yC]) | (refine qs_mid (v := ?_) (by rfl) ?_ ?_; rotate_left 1; (· (intro j w' hj1 hj2 hS; go_simp; (try (simp only [↓IntWalk.iteOmega]; go_simp)); (try simp (disch := omega) only [IntWalk.i64_in]); try with_reducible rfl)); simp only [Act.put, yA, yB, yC]) | (refine qs_skip (by rfl) ?_; simp only [Act.put, yA, yB, yC])))
     refine qs_act ?_
     go_wp2_with ((with_reducible show wpList _ _ _ (_ :: _) _ _); refine wpl_mentry2 rfl 454 (.tmp 33) (.tmp 35) rfl keyed_key keyLaw_key Tryz.underlying454 M2.out.drew HN.out rfl x.key rfl Tryz.zeroValue3 (klK_inj' _) (keyOf_key _) 0 rfl ?_; intro v0 st w3 hg hm hst; have G3 := yH hg; have M3 := yH hm; have ST := yH hst; clear hg hm hst)
     have hne := blk_ne_map M2.out K2.out
     have K3 := yH (K2.out.drew.grown G3.out (by simp; exact hne))
     have L3 := yH (show Below w.heap.size w w3 from bl_g LB2.out.drew G3.out (Nat.le_refl _))
     have hv : valF (aput (sumF ((negL l) ++ (posL r).take i)) x.key ((aget (sumF ((negL l) ++ (posL r).take i)) x.key).getD 0)) x.key = m0 := by
      unfold valF
      rw [aget_put, if_pos rfl]
      exact HM0.out.symm
     have HV := yH hv
     clear hv hne
     refine ⟨fun _ => ⟨⟨⟨_, M3.out, HV.out⟩, K3.out.part 0 (keyL x.key) (cnC_key x)⟩, K3.out.cell (i := 32) (by rw [List.getElem?_toArray]; exact cnC_ref x)⟩, ?_⟩
     (repeat (first | ((first | (refine qs_row (by rfl) 179 (.tmp 34) rfl wr.heap.size 0 rfl (keyL x.key) _ (fun j w' _ h2 h => (h (by omega)).1.2) Tryz.underlying179 rfl (keyL_info _) ?_) | (refine qs_sum (by rfl) 454 (.tmp 33) (.tmp 35) rfl Tryz.underlying454 rfl x.key rfl m0 (fun j w' _ h2 h => (h (by omega)).1.1) ?_) | (refine qs_mid (v := .int .i64 x.ref) (by rfl) ?_ ?_; rotate_left 1; (· (intro j w' h1 h2 h; have h3 := (h (by omega)).2; clear h; go_simp; done)))); simp only [Act.put, yA, yB, yC]) | (refine qs_now (v := ?_) (by rfl) ?_ ?_; rotate_left 1; (· (intro w' hS; go_simp; (try (simp only [↓IntWalk.iteOmega]; go_simp)); (try simp (disch := omega) only [IntWalk.i64_in]); try with_reducible rfl)); simp only [Act.put, yA, yB, yC]) | (refine qs_run (v := ?_) (by rfl) ?_ ?_; rotate_left 1; (· (intro j w' hS; go_simp; (try (simp only [↓IntWalk.iteOmega]; go_simp)); (try simp (disch := omega) only [IntWalk.i64_in]); try with_reducible rfl)); simp only [Act.put, yA, yB, yC]) | (refine qs_mid (v := ?_) (by rfl) ?_ ?_; rotate_left 1; (· (intro j w' hj1 hj2 hS; go_simp; (try (simp only [↓IntWalk.iteOmega]; go_simp)); (try simp (disch := omega) only [IntWalk.i64_in]); try with_reducible rfl)); simp only [Act.put, yA, yB, yC]) | (refine qs_skip (by rfl) ?_; simp only [Act.put, yA, yB, yC])))
     refine qs_act ?_
     go_wp2_with ((with_reducible show wpList _ _ _ (_ :: _) _ _); refine wpl_mestore rfl 454 (.tmp 33) (.tmp 41) (.tmp 39) rfl (m0 + x.ref) rfl rfl rfl ST.out ?_; intro w4 hm hg; have M4 := yH hm; have G4 := yH hg; clear hm hg)
     refine ⟨fun h => absurd h (by omega), ?_⟩
     refine qs_nil ?_
     go_wp2_with fail
     go_roundg (gk - 1)
     case measure => omega
     case rel =>
      refine ⟨i + 1, by congr 1, by omega, by omega, by omega, ?_, bl_g L3.out G4.out (Nat.le_refl _)⟩
      rw [HTk.out, sumF_snoc]
      unfold addS
      rw [← HM0.out]
      exact M4.out
    ·have hiI : ¬ (i : Int) < (m : Int) := by omega
     have hall := yH (show (posL r).take i = posL r from List.take_of_length_le (by unfold posL; rw [List.length_map, HL2.out]; omega))
     have HSn := yH (show (sumF (negL l ++ (posL r).take i)).length ≤ 100000000 by have := (B2.out i).1; omega)
     go_wp2_with (go_at_call 319; refine (row_any M.out HSn.out).mono ?_; rintro e w2 ⟨v, rfl, ho, hb⟩; have O := yH ho; have L2 := yH hb; clear ho hb)
     go_ret
     have ho := O.out
     rw [hall.out] at ho
     exact ⟨_, rfl, own_loR ho LB.out.size, below_chain LB.out L2.out⟩
end Go.Proofs.YtffalfacakdhkaaGreatDoor
