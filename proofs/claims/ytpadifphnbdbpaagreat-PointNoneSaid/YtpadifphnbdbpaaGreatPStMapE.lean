/-
  what this claim needs of: StMapE, StC (written by cut.py).
-/
import Derived.Test.YtpadifphnbdbpaaGreatPStMapG
import Derived.Test.YtpadifphnbdbpaaGreatPStX
namespace Go.Proofs.YtpadifphnbdbpaaGreat
open Go.RowKit Go.Maps Go.ChangeMaps
set_option linter.unusedVariables false

section
variable {α β : Type} [DecidableEq α] {P : Program} {k : TypeId} {kv : α → Value} {kl : α → Lit} {ve : β → Value} {w : World} {b : Nat} {M : List (α × β)}
theorem MapIs.entry2 {t e : TypeId} (h : MapIs P k kv kl ve w b M) (K : Keyed P k) (KL : Go.WideMaps.KeyLaw P k) (ht : P.underlying t = some (.map k e)) {z : Value} (hz : ∀ u : World, (zeroValue e).run P u = .ok z u) (hn : M.length < maxLen) {x : α}
    (hinj : ∀ p ∈ M, kl p.1 = kl x → p.1 = x) (hx : keyOf P k (kv x) = some (kl x)) (zd : β) (hzd : ve zd = z) :
    ∃ v0 st w1, (Instr.mapEntry t (.map (some b)) (kv x)).run P w = .ok (.tuple #[v0, goInt st]) w1 ∧ w.grownBy w1 (some b) ∧ MapIs P k kv kl ve w1 b (aput M x ((aget M x).getD zd)) ∧
      ∀ (w2 : World) (v : β), w2.heap[b]? = w1.heap[b]? → ∃ w3, (Instr.entryStore t (.map (some b)) (goInt st) (ve v)).run P w2 = .ok () w3 ∧ MapIs P k kv kl ve w3 b (aput M x v) ∧ w2.grownBy w3 (some b) := by
  obtain ⟨v0, st, w1, hrun, hg, hst⟩ := h.entry K KL ht hz hn hinj hx
  refine ⟨v0, st, w1, hrun, hg, ?_, hst⟩
  have hlook := h.look K ht (hz w) hinj hx
  have hv : ve ((aget M x).getD zd) = ((aget M x).map ve).getD z := by
    cases aget M x with
    | none => exact hzd
    | some y => rfl
  obtain ⟨w', hup, hm, _⟩ := h.update K ht hn hinj hx ((aget M x).getD zd)
  rw [hv] at hup
  have key : (Instr.mapUpdate t (.map (some b)) (kv x) (((aget M x).map ve).getD z)).run P w = .ok () w1 := by
    generalize ((aget M x).map ve).getD z = u at hlook
    obtain ⟨es, ⟨es', clock, hb, F, _⟩, _⟩ := h
    rcases K.find w hx es'.toList F.keys with ⟨h1, h2⟩ | ⟨j, e0, h1, h2, h3⟩
    · have e1 : z = u := by
        have : (Instr.lookup t (.map (some b)) (kv x) false).run P w = .ok z w := by simp [Instr.lookup, run_underlying ht, MapKept.run_getObj_map hb, K.check w _ hx, h1, hz, Result.andThen]
        rw [this] at hlook
        injection hlook
      subst e1
      have e2 : (Instr.mapEntry t (.map (some b)) (kv x)).run P w = .ok (.tuple #[z, goInt clock]) (setBlock w b (.map (es'.push ⟨kv x, z, clock⟩) (clock + 1))) := by
        simp [Instr.mapEntry, run_underlying ht, MapKept.run_getObj_map hb, K.check w false hx, h1, hz, MapKept.run_setObj_map _ hb, Result.andThen, setBlock]
      rw [hrun] at e2
      injection e2 with _ e2
      rw [e2]
      simp [Instr.mapUpdate, run_underlying ht, MapKept.run_getObj_map hb, K.check w false hx, h1, MapKept.run_setObj_map _ hb, Result.andThen, setBlock]
    · have hj : es'[j]? = some e0 := by simpa using h2
      have e1 : e0.val = u := by
        have : (Instr.lookup t (.map (some b)) (kv x) false).run P w = .ok e0.val w := by simp [Instr.lookup, run_underlying ht, MapKept.run_getObj_map hb, K.check w _ hx, h1, Result.andThen]
        rw [this] at hlook
        injection hlook
      have hself : ∀ (l : List MapEntry) (i : Nat) (a : MapEntry), l[i]? = some a → l.set i a = l := fun l i a h => by
        apply List.ext_getElem?
        intro q
        rw [List.getElem?_set]
        split
        · rename_i hq
          subst hq
          have := (List.getElem?_eq_some_iff.1 h).1
          rw [if_pos this, h]
        · rfl
      have hsame : es'.modify j (fun e => { e with key := kv x }) = es' := by
        apply Array.ext'
        rw [Array.toList_modify, modify_eq_set _ _ _ _ h2]
        have : ({ e0 with key := kv x } : MapEntry) = e0 := by rw [← h3]
        rw [this]
        exact hself _ _ _ h2
      have hsame2 : es'.modify j (fun e => { e with key := kv x, val := u }) = es' := by
        apply Array.ext'
        rw [Array.toList_modify, modify_eq_set _ _ _ _ h2]
        have : ({ e0 with key := kv x, val := u } : MapEntry) = e0 := by rw [← h3, ← e1]
        rw [this]
        exact hself _ _ _ h2
      have e2 : (Instr.mapEntry t (.map (some b)) (kv x)).run P w = .ok (.tuple #[e0.val, goInt e0.born]) (setBlock w b (.map es' clock)) := by
        simp [Instr.mapEntry, run_underlying ht, MapKept.run_getObj_map hb, K.check w false hx, h1, hj, h3, K.stays w hx, hsame, MapKept.run_setObj_map _ hb, Result.andThen, setBlock]
      rw [hrun] at e2
      injection e2 with _ e2
      rw [e2]
      simp [Instr.mapUpdate, run_underlying ht, MapKept.run_getObj_map hb, K.check w false hx, h1, hj, h3, K.stays w hx, hsame2, MapKept.run_setObj_map _ hb, Result.andThen, setBlock]
  rw [hup] at key
  injection key with _ key
  rwa [key] at hm
theorem wpl_mentry2 {ops : Array Oper} {rest : List Oper} {o : Oper} {a : Act} {Q : Exit → Act → World → Prop} (hg : o.guard = none) (t : TypeId) (m x : Operand) (hop : o.op = .mapEntry t m x) {e : TypeId} (K : Keyed P k) (KL : Go.WideMaps.KeyLaw P k) (ht : P.underlying t = some (.map k e)) (h : MapIs P k kv kl ve w b M) (hn : M.length < maxLen) (hm : a.eval m = .map (some b)) (X : α) (hx : a.eval x = kv X)
    {z : Value} (hz : ∀ u : World, (zeroValue e).run P u = .ok z u) (hinj : ∀ p ∈ M, kl p.1 = kl X → p.1 = X) (hkey : keyOf P k (kv X) = some (kl X)) (zd : β) (hzd : ve zd = z)
    (hK : ∀ v0 (st : Int) w1, w.grownBy w1 (some b) → MapIs P k kv kl ve w1 b (aput M X ((aget M X).getD zd)) → (∀ (w2 : World) (v : β), w2.heap[b]? = w1.heap[b]? → ∃ w3, (Instr.entryStore t (.map (some b)) (.int .i64 st) (ve v)).run P w2 = .ok () w3 ∧ MapIs P k kv kl ve w3 b (aput M X v) ∧ w2.grownBy w3 (some b)) →
      wpList P ops Q rest (a.put o.dst (.tuple #[v0, .int .i64 st])) w1) : wpList P ops Q (o :: rest) a w := by
  refine wpList_plain hg fun K' hK' => ?_
  obtain ⟨v0, st, w1, hrun, h1, h3, h2⟩ := h.entry2 K KL ht hz hn hinj hkey zd hzd
  unfold Oper.wp
  simp [execOp, hop, hm, hx, hrun, Result.andThen]
  exact hK' _ _ (hK v0 st w1 h1 h3 h2)
end
theorem keyLaw_key : Go.WideMaps.KeyLaw Tryz.prog 90 := deep_law_laid (m := 2) (by kernel_rfl) (by omega) (of_decide_eq_true (by kernel_rfl)) (by kernel_rfl) (by rw [Tryz.underlying90])
end Go.Proofs.YtpadifphnbdbpaaGreat
namespace Go.Proofs.YtpadifphnbdbpaaGreat
open Go.RowKit Go.Maps Go.Sort Go.Shelf
set_option linter.unusedVariables false
set_option linter.unusedSimpArgs false

theorem info_Cn : (Tryz.prog.info? 203).map (fun i => (i.zero, i.size, i.bytes)) = some (some (.agg (cnC ⟨zKey, 0⟩).toArray), 33, 40) := by kernel_rfl
theorem cn_has (i : Cn) : (Tryz.prog.info? 203).map (fun i => (i.zero, i.size, i.bytes)) = some (some (.agg (cnC ⟨zKey, 0⟩).toArray), (cnC i).length, 40) := by rw [cnC_len]; exact info_Cn
def cnsC (l : List Cn) : List Value := l.flatMap cnC
theorem cnsC_append (l r : List Cn) : cnsC (l ++ r) = cnsC l ++ cnsC r := by unfold cnsC; rw [List.flatMap_append]
theorem cnsC_single (i : Cn) : cnsC [i] = cnC i := by simp [cnsC]
section
variable {w : World} {ops : Array Oper} {rest : List Oper} {o : Oper} {a : Act} {Q : Exit → Act → World → Prop}
theorem wpl_lit_cn (hg : o.guard = none) (x : Operand) (hop : o.op = .buildSlice 200 1 #[(0, x)]) (i : Cn) (hx : a.eval x = .agg (cnC i).toArray)
    (hK : ∀ w1, Blk w1 w.heap.size 203 (cnC i).toArray → w.grownBy w1 none → w1.heap.size = w.heap.size + 1 → wpList Tryz.prog ops Q rest (a.put o.dst (.slice (some ⟨w.heap.size, 0, none⟩) 1 1)) w1) : wpList Tryz.prog ops Q (o :: rest) a w :=
  wpl_lit1 hg 200 203 x hop (cnC i) hx Tryz.underlying200 (cn_has i) (by rw [cnC_len]; simp [Value.cells, cnC_len]) (by rw [cnC_len]; omega) (by rw [cnC_len]; omega) hK
theorem wpl_app_cn (hg : o.guard = none) (s x : Operand) (hop : o.op = .call { callee := .builtin .append, args := #[s, x], argTypes := #[200, 200] }) (base : Nat) (v : Value) (l : List Cn) (hs : a.eval s = v) (hown : w.ownsRow base 203 33 v l.length (cnsC l))
    (g : Nat) (i : Cn) (hx : a.eval x = .slice (some ⟨g, 0, none⟩) 1 1) (hb : Blk w g 203 (cnC i).toArray) (hn : l.length ≤ 1000000000) (hbase : base ≤ w.heap.size)
    (h : ∀ v' w1, w1.ownsRow base 203 33 v' (l ++ [i]).length (cnsC (l ++ [i])) → w.grownBy w1 v.ownBlock → wpList Tryz.prog ops Q rest (a.put o.dst v') w1) : wpList Tryz.prog ops Q (o :: rest) a w := by
  refine app_src hg s x 200 hop base 203 _ 33 40 Tryz.underlying200 info_Cn (by simp [Value.cells, cnC_len]) (by omega) v l.length (cnsC l) hs hown (.slice (some ⟨g, 0, none⟩) 1 1) 1 (cnC i) hx ⟨_, 1, rfl, by rw [cnC_len], fun _ => ⟨g, 0, rfl, hb.lt, fun j y hy => ?_⟩⟩ (cnC_one i) (by omega) (by omega) hbase (fun v' w1 h1 h2 _ => h v' w1 ?_ h2)
  · rw [Nat.zero_add]
    exact hb.cell (by rw [List.getElem?_toArray]; exact hy)
  · rw [cnsC_append, cnsC_single, List.length_append]
    exact h1
end
theorem built_cn (K : Key) (n : Int) : Tryz.prog.built 203 [(0, .agg (keyL K).toArray), (1, .int .i64 n)] = some (cnC ⟨K, n⟩).toArray := by
  have e : Tryz.prog.built 203 [(0, .agg (keyL K).toArray), (1, .int .i64 n)] = Instr.fill ([(0, 32), (32, 1)].toArray[·]?) (cnC ⟨zKey, 0⟩).toArray [(0, .agg (keyL K).toArray), (1, .int .i64 n)] := by kernel_rfl
  rw [e, fill_cons 0 (keyL K) (by simp [Value.cells]) (by rw [keyL_len]; rfl) (by simp [cnC_len, keyL_len]), put_mid (l := cnC ⟨zKey, 0⟩) (l' := cnC ⟨K, 0⟩) [] [.int .i64 0] (keyL zKey) (keyL K) 0 rfl rfl rfl (by rw [keyL_len, keyL_len]), fill_cons 32 [.int .i64 n] rfl rfl (by simp [cnC_len]), put_mid (l := cnC ⟨K, 0⟩) (l' := cnC ⟨K, n⟩) (keyL K) [] [.int .i64 0] [.int .i64 n] 32 rfl rfl (keyL_len K) rfl]
  rfl
theorem sortCns (base : Nat) (v : Value) (l : List Cn) (w : World) (hown : w.ownsRow base 203 33 v l.length (cnsC l)) (hsz : l.length ≤ 1000000000) :
    Calls Tryz.prog 163 #[v, .func (.func 164) #[] #[]] w (SrtPost cnC 33 base l.length 203 (fun x y => cmpK x.key y.key) v l w) :=
  sortFunc_own Tryz.sortCn 33 Tryz.isAgg203 Tryz.sizeOf203 cnC cnC_len cnC_one _ (swo_key Cn.key) 164 (enters_of Tryz.func164 (by kernel_rfl) rfl) cmpCn base _ v l w hown hsz
abbrev SuM := List (Key × Int)
def cnOf (p : Key × Int) : Cn := ⟨p.1, p.2⟩
def leCn (x y : Cn) : Bool := !(ltOf (fun x y : Cn => cmpK x.key y.key) y x)
def nz (S : SuM) : SuM := S.filter (fun p => !decide (p.2 = 0))
/-- Sums that are not nought, by their keys. -/
def rowCn (S : SuM) : List Cn := ((nz S).map cnOf).mergeSort leCn
theorem leCn_trans (a b c : Cn) (h1 : leCn a b = true) (h2 : leCn b c = true) : leCn a c = true := by
  have := (swo_key Cn.key).ntrans c b a
  unfold leCn at *
  simp at h1 h2 ⊢
  exact this h2 h1
theorem leCn_total (a b : Cn) : (leCn a b || leCn b a) = true := by
  have h := (swo_key Cn.key)
  unfold leCn
  cases h1 : ltOf (fun x y : Cn => cmpK x.key y.key) b a
  · rfl
  · cases h2 : ltOf (fun x y : Cn => cmpK x.key y.key) a b
    · rfl
    · have := h.trans _ _ _ h1 h2
      rw [h.irrefl] at this
      cases this
theorem rowC_perm (S : SuM) : (rowCn S).Perm ((nz S).map cnOf) := List.mergeSort_perm _ _
theorem rowC_sorted (S : SuM) : (rowCn S).Pairwise (fun a b => leCn a b = true) := List.pairwise_mergeSort leCn_trans leCn_total _
theorem rowC_eq {S : SuM} (hu : Uniq S) {l : List Cn} (hp : l.Perm ((nz S).map cnOf)) (hs : l.Pairwise (fun x y => ltOf (fun x y : Cn => cmpK x.key y.key) y x = false)) : l = rowCn S := by
  have hu' : Uniq (nz S) := hu.filter _
  refine List.Perm.eq_of_pairwise (le := fun a b => leCn a b = true) (fun a b ha hb h1 h2 => ?_) (hs.imp (fun {a b} h => by unfold leCn; rw [h]; rfl)) (rowC_sorted S) (hp.trans (rowC_perm S).symm)
  obtain ⟨p, hp1, rfl⟩ := List.mem_map.1 (hp.mem_iff.1 ha)
  obtain ⟨q, hq1, rfl⟩ := List.mem_map.1 ((rowC_perm S).mem_iff.1 hb)
  unfold leCn ltOf at h1 h2
  simp at h1 h2
  have hk : p.1 = q.1 := cmpK_zero (K := p.1) (L := q.1) h2 h1
  have e1 := aget_of_mem hu' (x := p.1) (v := p.2) hp1
  have e2 := aget_of_mem hu' (x := q.1) (v := q.2) hq1
  rw [hk, e2] at e1
  injection e1 with e1
  unfold cnOf
  rw [hk, e1]
structure CRI (w : World) (b r : Nat) (S : SuM) (v3 : Value) (l : List Cn) (todo : SuM) (wr : World) : Prop where
  rng : RangeIs Tryz.prog 90 vKey klK (Value.int .i64) wr b r S todo
  out : wr.ownsRow w.heap.size 203 33 v3 l.length (cnsC l)
  low : Below w.heap.size w wr
  what : ∃ done, S.Perm (done ++ todo) ∧ l = (nz done).map cnOf
theorem CRI.len {w : World} {b r : Nat} {S : SuM} {v3 : Value} {l : List Cn} {todo : SuM} {wr : World} (h : CRI w b r S v3 l todo wr) : l.length + todo.length ≤ S.length := by
  obtain ⟨done, h1, h2⟩ := h.what
  have := List.length_filter_le (fun p : Key × Int => !decide (p.2 = 0)) done
  rw [h1.length_eq, h2, List.length_map, List.length_append]
  unfold nz
  omega
def CMI (w : World) (b r : Nat) (S : SuM) (k : Nat) (v3 : Value) (wr : World) : Prop := ∃ l todo, k = todo.length ∧ CRI w b r S v3 l todo wr
set_option maxRecDepth 100000 in
set_option maxHeartbeats 2000000 in
theorem row_any {w : World} {b : Nat} {S : SuM} (h : MapIs Tryz.prog 90 vKey klK (Value.int .i64) w b S) (hS : S.length ≤ 100000000) : Calls Tryz.prog 135 #[.map (some b)] w fun e w' => ∃ v, e = .returned v ∧ w'.ownsRow w.heap.size 203 33 v (rowCn S).length (cnsC (rowCn S)) ∧ Below w.heap.size w w' := by
  have H := Lib.hid h
  clear h
  go_enter Tryz.func135, Tryz.ntmps135
  go_wp2_with ((with_reducible show wpList _ _ _ (_ :: _) _ _); refine wpl_mrange rfl 241 (.tmp 6) rfl keyed_key Tryz.underlying241 H.out rfl ?_; intro w1 hr hg hz; have R1 := Lib.hid hr; have G1 := Lib.hid hg; clear hr hg hz)
  have L1 := Lib.hid (bl_n (Below.refl _ _) G1.out)
  have X1 := Lib.hid (show CRI w b w.heap.size S (.slice none 0 0) [] S w1 from ⟨R1.out, World.ownsRow_nil _ _ _ _, L1.out, [], List.Perm.refl _, rfl⟩)
  go_frame
  clear R1 G1 L1
  go_loopg [3] S.length (fun k v3 wr => CMI w b w.heap.size S k v3 wr)
  case atStart => exact ⟨[], S, rfl, X1.out⟩
  case round =>
    obtain ⟨l, todo, hk, hX⟩ := hrel
    have X := Lib.hid hX
    have HK := Lib.hid hk
    clear hX hk X1
    go_wp2_with ((with_reducible show wpList _ _ _ (_ :: _) _ _); refine wpl_mnext rfl (.tmp 7) rfl keyed_key X.out.rng rfl (fun p _ q _ h => klK_inj h) ?_ ?_)
    · intro htd
      have hl := X.out.len
      have HTd := Lib.hid htd
      have hlb : l.length ≤ 1000000000 := by omega
      clear htd hl
      go_wp2_with (go_at_call 163; refine (sortCns w.heap.size u3 l wr X.out.out hlb).mono ?_; rintro e w2 ⟨rfl, l', hp, hs, ho, hg⟩; have P := Lib.hid hp; have S' := Lib.hid hs; have O := Lib.hid ho; have G := Lib.hid hg; clear hp hs ho hg)
      go_ret
      obtain ⟨done, h1, h2⟩ := X.out.what
      rw [HTd.out, List.append_nil] at h1
      have e : l' = rowCn S := rowC_eq X.out.rng.owns.uniq (P.out.trans (by rw [h2]; exact ((h1.filter _).map cnOf).symm)) S'.out
      have ho := O.out
      rw [← P.out.length_eq, e] at ho
      exact ⟨_, rfl, ho, (X.out.low).grown G.out X.out.low.size (fun k hk => (own_at X.out.out k hk).1)⟩
    · intro kv kp n todo' w1' hperm hR hg hsz hen
      obtain ⟨K, hK⟩ : ∃ K : Key, (⟨kv, kp⟩ : Key) = K := ⟨_, rfl⟩
      rw [hK] at hperm hen
      rw [hK]
      clear hK kp kv
      have hne := own_ne_iter X.out.rng X.out.out
      have Ox := Lib.hid (own_keptR X.out.out hg (fun b hb => by injection hb with hb; subst hb; exact hne.1))
      have Lx := Lib.hid (bl_g X.out.low hg (Nat.le_refl _))
      have Rx := Lib.hid hR
      have Px := Lib.hid hperm
      have Wx := Lib.hid X.out.what
      have HXl := Lib.hid X.out.len
      clear hne hg hsz hR hperm X
      go_upto_region 5 with (first
        | ((with_reducible show wpList _ _ _ (_ :: _) _ _); refine wpl_alloc rfl 90 rfl Tryz.zeroValue90 32 rfl ?_; intro wA csA hk hc hg hz; have KA := Lib.hid hk; have CA := Lib.hid hc; have GA := Lib.hid hg; clear hk hc hg hz)
        | ((with_reducible show wpList _ _ _ (_ :: _) _ _); refine wpl_over rfl 90 (.tmp 4) (.tmp 11) rfl w1'.heap.size (keyL K) rfl rfl _ csA KA.out (keyL_info K) (by rw [keyL_len, CA.out]) (keyL_one K) ?_; intro wD hk hg hz; have KC := Lib.hid hk; have GC := Lib.hid hg; clear hk hg hz))
      have LD := Lib.hid (show Below w1'.heap.size w1' wD from bl_g (bl_n (Below.refl _ _) GA.out) GC.out (Nat.le_refl _))
      have Od := Lib.hid (own_belowR Ox.out LD.out)
      have Ld := Lib.hid (below_chain Lx.out LD.out)
      have Rd := Lib.hid (Rx.out.tbelow LD.out)
      have Q1 := Lib.hid (show wD.rangeAt w1'.heap.size 0 (keyL K) by have := KC.out.range; rwa [toArr] at this)
      have hlb : l.length ≤ 1000000000 := by have := HXl.out; omega
      clear KA CA GA KC GC Ox Lx Rx hen
      by_cases hn : n = 0
      · subst hn
        go_wp2_with fail
        go_roundg todo'.length
        case measure => rw [HK.out, Px.out.length_eq, List.length_cons]; omega
        case rel =>
          obtain ⟨done, h1, h2⟩ := Wx.out
          refine ⟨l, todo', rfl, Rd.out, Od.out, Ld.out, done ++ [(K, 0)], ?_, ?_⟩
          · rw [List.append_assoc]
            exact h1.trans (List.Perm.append_left _ Px.out)
          · rw [h2]; unfold nz; rw [List.filter_append]; simp
      · have en : (n == 0) = false := beq_eq_false_iff_ne.2 hn
        have HN := Lib.hid hn
        clear hn
        go_wp2_with (first
          | ((with_reducible show wpList _ _ _ (_ :: _) _ _); refine wpList_load_mid rfl 90 (.tmp 4) rfl w1'.heap.size 0 rfl (keyL K) _ Q1.out Tryz.underlying90 rfl (keyL_info _) ?_)
          | ((with_reducible show wpList _ _ _ (_ :: _) _ _); refine wpl_mk rfl 203 #[(0, .tmp 16), (1, .tmp 17)] rfl [(0, .agg (keyL K).toArray), (1, .int .i64 n)] rfl _ (built_cn K n) ?_)
          | ((with_reducible show wpList _ _ _ (_ :: _) _ _); refine wpl_lit_cn rfl (.tmp 18) rfl (cnOf (K, n)) rfl ?_; intro wE hk hg hz; have KE := Lib.hid hk; have GE := Lib.hid hg; clear hk hg hz; have LE := Lib.hid (show Below wD.heap.size wD wE from bl_n (Below.refl _ _) GE.out); have Oe := Lib.hid (own_belowR Od.out LE.out); have Le := Lib.hid (below_chain Ld.out LE.out))
          | ((with_reducible show wpList _ _ _ (_ :: _) _ _); refine wpl_app_cn rfl (.tmp 15) (.tmp 19) rfl w.heap.size u3 l rfl Oe.out _ (cnOf (K, n)) rfl KE.out hlb Le.out.size ?_; intro v' wF ho hg; have OF := Lib.hid ho; have GF := Lib.hid hg; clear ho hg))
        go_roundg todo'.length
        case measure => rw [HK.out, Px.out.length_eq, List.length_cons]; omega
        case rel =>
          obtain ⟨done, h1, h2⟩ := Wx.out
          have Re := Rd.out.tbelow LE.out
          have hne := own_ne_iter Re Oe.out
          refine ⟨l ++ [cnOf (K, n)], todo', rfl, Re.kept GF.out (fun e => hne.2 e.symm) (fun e => hne.1 e.symm), OF.out, Le.out.grown GF.out Le.out.size (fun k hk => (own_at Oe.out k hk).1), done ++ [(K, n)], ?_, ?_⟩
          · rw [List.append_assoc]
            exact h1.trans (List.Perm.append_left _ Px.out)
          · rw [h2]; unfold nz; rw [List.filter_append, List.map_append]; simp [HN.out]
end Go.Proofs.YtpadifphnbdbpaaGreat
namespace Go.Proofs.YtpadifphnbdbpaaGreat
open Go.RowKit Go.Maps Go.Sort Go.Shelf
set_option linter.unusedVariables false
set_option linter.unusedSimpArgs false

def valF (S : SuM) (K : Key) : Int := (aget S K).getD 0
def addS (S : SuM) (K : Key) (d : Int) : SuM := aput S K (valF S K + d)
def sumF (l : SuM) : SuM := l.foldl (fun S p => addS S p.1 p.2) []
theorem sumF_snoc (l : SuM) (p : Key × Int) : sumF (l ++ [p]) = addS (sumF l) p.1 p.2 := by simp [sumF, List.foldl_append]
theorem valF_add (S : SuM) (K L : Key) (d : Int) : valF (addS S K d) L = if K = L then valF S K + d else valF S L := by
  unfold valF addS
  rw [aget_put]
  split <;> rfl
theorem addS_len (S : SuM) (K : Key) (d : Int) : (addS S K d).length ≤ S.length + 1 := by
  unfold addS aput
  rw [List.length_cons]
  have := adel_le S K
  omega
theorem foldS_facts (B : Nat) : ∀ (l S : SuM) (n : Nat), S.length ≤ n → (∀ K, -(B * n : Int) ≤ valF S K ∧ valF S K ≤ (B * n : Int)) → (∀ p ∈ l, -(B : Int) ≤ p.2 ∧ p.2 ≤ (B : Int)) →
    (l.foldl (fun S p => addS S p.1 p.2) S).length ≤ n + l.length ∧ ∀ K, -(B * (n + l.length : Nat) : Int) ≤ valF (l.foldl (fun S p => addS S p.1 p.2) S) K ∧ valF (l.foldl (fun S p => addS S p.1 p.2) S) K ≤ (B * (n + l.length : Nat) : Int)
  | [], S, n, h1, h2, _ => ⟨by simpa using h1, by simpa using h2⟩
  | p :: l, S, n, h1, h2, h3 => by
    have hp := h3 p (by simp)
    have := foldS_facts B l (addS S p.1 p.2) (n + 1) (by have := addS_len S p.1 p.2; omega) (fun K => by
      rw [valF_add]
      have h4 := h2 K
      have h5 := h2 p.1
      have e : (B * (n + 1 : Nat) : Int) = B * n + B := by push_cast; rw [Int.mul_add, Int.mul_one]
      rw [e]
      split <;> omega) (fun q hq => h3 q (by simp [hq]))
    rw [List.foldl_cons, List.length_cons, show n + (l.length + 1) = n + 1 + l.length by omega]
    exact this
theorem sumF_facts (B : Nat) (l : SuM) (h : ∀ p ∈ l, -(B : Int) ≤ p.2 ∧ p.2 ≤ (B : Int)) : (sumF l).length ≤ l.length ∧ ∀ K, -(B * l.length : Int) ≤ valF (sumF l) K ∧ valF (sumF l) K ≤ (B * l.length : Int) := by
  have := foldS_facts B l [] 0 (Nat.le_refl _) (fun K => by simp [valF, aget]) h
  rw [Nat.zero_add] at this
  exact this
section
variable {b : Nat} {l : List Oper} {Q : Exit → Act → World → Prop} {S : Nat → World → Prop}
theorem qs_sum {o : Oper} {r : List (Oper × Option Nat)} {k m : Nat} {a : Act} {w : World} (hw : Region.wanted o (yielded l.toArray a.tmps) = true) (t : TypeId) (mm x : Operand) (ho : o.op = .lookup t mm x false) (ht : Tryz.prog.underlying t = some (.map 90 3))
    (hm : a.eval mm = .map (some b)) (X : Key) (hx : a.eval x = vKey X) (n : Int) (hS : ∀ j w, k ≤ j → j ≤ m → S j w → ∃ M : SuM, MapIs Tryz.prog 90 vKey klK (Value.int .i64) w b M ∧ valF M X = n)
    (h : wpQs Tryz.prog l Q S r k (a.put o.dst (.int .i64 n)) w) : wpQs Tryz.prog l Q S ((o, some m) :: r) k a w :=
  ⟨_, .inl ⟨hw, fun w' ⟨j, h1, h2, h3⟩ => by
    obtain ⟨M, hM, hn⟩ := hS j w' h1 h2 h3
    have hrun := hM.look keyed_key ht (Tryz.zeroValue3 w') (klK_inj' X) (keyOf_key X)
    have e : ((aget M X).map (Value.int .i64)).getD (.int .i64 0) = .int .i64 n := by
      rw [← hn]
      unfold valF
      cases aget M X <;> rfl
    rw [e] at hrun
    unfold execOp
    simp only [ho, hm, hx, Sem.run_bind, hrun, Result.andThen_ok, Sem.run_pure]⟩, h⟩
end
/-- A slice of structs that is read: where an element lies. -/
theorem src_part {α : Type} {enc : α → List Value} {sz : Nat} (hk : ∀ x, (enc x).length = sz) {w : World} {A : Option Addr} {n c : Nat} {l : List α} (h : Src w sz (.slice A n c) n (l.flatMap enc)) (hl : l.length = n) {j : Nat} (hj : j < l.length) :
    ∃ b off, A = some ⟨b, off, none⟩ ∧ w.rangeAt b (off + j * sz) (enc (l[j]'hj)) := by
  obtain ⟨A', c', e, hlen, hc⟩ := h
  injection e with e1 e2 e3
  subst e1
  obtain ⟨b, off, e, hlt, hcell⟩ := hc (by omega)
  refine ⟨b, off, e, fun i v hi => ?_⟩
  rw [Nat.add_assoc]
  refine hcell (j * sz + i) v ?_
  have key : ∀ (l : List α) (q : Nat) (hq : q < l.length) (i : Nat), i < sz → (l.flatMap enc)[q * sz + i]? = (enc (l[q]'hq))[i]? := by
    intro l
    induction l with
    | nil => intro q hq; simp at hq
    | cons x l ih =>
      intro q hq i hi
      rw [List.flatMap_cons]
      rcases q with _ | q
      · rw [Nat.zero_mul, Nat.zero_add, List.getElem?_append_left (by rw [hk]; exact hi)]; rfl
      · rw [List.getElem?_append_right (by rw [hk, Nat.succ_mul]; omega), hk]
        have := ih q (by simpa using hq) i hi
        rw [show (q + 1) * sz + i - sz = q * sz + i by rw [Nat.succ_mul]; omega, this]
        rfl
  rw [key l j hj i (by
    rcases Nat.lt_or_ge i sz with h | h
    · exact h
    · rw [List.getElem?_eq_none (by rw [hk]; exact h)] at hi; cases hi)]
  exact hi
def cntL (l : List It) : SuM := (l.filter (fun i => i.kind == 2)).map (fun i => (i.sl.key, 1))
/-- How many slices have each key. -/
def countC (l : List It) : List Cn := rowCn (sumF (cntL l))
theorem cntL_take {l : List It} {j : Nat} (hj : j < l.length) : cntL (l.take (j + 1)) = cntL (l.take j) ++ (if (l[j]'hj).kind == 2 then [((l[j]'hj).sl.key, 1)] else []) := by
  unfold cntL
  rw [List.take_succ_eq_append_getElem hj, List.filter_append, List.map_append]
  congr 1
  cases hk : (l[j]'hj).kind == 2 <;> simp [hk]
theorem cntL_len (l : List It) : (cntL l).length ≤ l.length := by unfold cntL; rw [List.length_map]; exact List.length_filter_le _ _
theorem cntL_one (l : List It) : ∀ p ∈ cntL l, -((1 : Nat) : Int) ≤ p.2 ∧ p.2 ≤ ((1 : Nat) : Int) := by
  intro p hp
  obtain ⟨i, _, rfl⟩ := List.mem_map.1 hp
  simp
def CtI (w : World) (l : List It) (n : Nat) (k : Nat) (iv : Value) (wr : World) : Prop :=
  ∃ i : Nat, iv = .int .i64 (i : Int) ∧ i ≤ n ∧ i + k ≤ n ∧ n ≤ i + k ∧ MapIs Tryz.prog 90 vKey klK (Value.int .i64) wr w.heap.size (sumF (cntL (l.take i))) ∧ Below w.heap.size w wr
def CnPost (L : List Cn) (w : World) (e : Ending) (w' : World) : Prop := ∃ v, e = .returned v ∧ w'.ownsRow w.heap.size 203 33 v L.length (cnsC L) ∧ Below w.heap.size w w'
theorem itC_slkey (i : It) : ((itC i).drop 39).take (keyL i.sl.key).length = keyL i.sl.key := by
  have e : itC i = (.int .u8 i.kind :: (keyL i.key ++ (plC i.pl ++ [.int .i64 i.snap, .int .i64 i.unit]))) ++ (keyL i.sl.key ++ [.int .i64 i.sl.off, .int .i64 i.sl.mask]) := by simp [itC, slC]
  rw [e, List.drop_left' (by simp [keyL_len, plC_len]), List.take_left]
theorem itC_kind (i : It) : (itC i)[0]? = some (.int .u8 i.kind) := rfl
set_option maxRecDepth 100000 in
set_option maxHeartbeats 2000000 in
theorem count_any {w : World} {A : Option Addr} {n c : Nat} {l : List It} (h : Src w 73 (.slice A n c) n (itsC l)) (hl : l.length = n) (hn : n ≤ 100000000) : Calls Tryz.prog 103 #[.slice A n c] w (CnPost (countC l) w) := by
  have H := Lib.hid h
  have HL := Lib.hid hl
  clear h hl
  have hmm := @run_makeMap Tryz.prog
  go_enter Tryz.func103, Tryz.ntmps103
  go_wp2_with fail
  obtain ⟨w1, hw1⟩ : ∃ w1, w1 = w.alloc (Obj.map #[] 0) := ⟨_, rfl⟩
  have M1 := Lib.hid (show MapIs Tryz.prog 90 vKey klK (Value.int .i64) w1 w.heap.size ([] : SuM) by rw [hw1]; exact MapIs.made w _ _ _ _ _)
  have L1 := Lib.hid (show Below w.heap.size w w1 by rw [hw1]; exact (Below.refl _ _).alloc (Nat.le_refl _) _)
  rw [← hw1]
  clear hw1 hmm
  go_loopg [9] n (fun k iv wr => CtI w l n k iv wr)
  case atStart => exact ⟨0, rfl, by omega, by omega, by omega, M1.out, L1.out⟩
  case round =>
    obtain ⟨i, rfl, i1, i2, i3, hm, hb⟩ := hrel
    have M := Lib.hid hm
    have LB := Lib.hid hb
    clear hm hb M1 L1
    by_cases hi : i < n
    · have hiI : (i : Int) < (n : Int) := by omega
      have hil : i < l.length := by rw [HL.out]; exact hi
      obtain ⟨b, off, hA, hr⟩ := src_part itC_len (H.out.below LB.out) HL.out hil
      have HTk := Lib.hid (cntL_take hil)
      generalize l[i] = x at hr HTk
      subst hA
      have Rg := Lib.hid hr
      clear hr hil
      go_upto_region 5 with (first
        | ((with_reducible show wpList _ _ _ (_ :: _) _ _); refine wpl_sidx rfl 46 (.tmp 7) (.tmp 9) rfl Tryz.underlying46 Tryz.sizeOf135 b off n c i rfl rfl hi ?_)
        | ((with_reducible show wpList _ _ _ (_ :: _) _ _); refine wpList_load_mid rfl 135 (.tmp 11) rfl b (off + i * 73) rfl (itC x) _ Rg.out Tryz.underlying135 rfl (itC_info x) ?_)
        | ((with_reducible show wpList _ _ _ (_ :: _) _ _); refine wpl_alloc rfl 135 rfl Tryz.zeroValue135 73 zero_It_len ?_; intro wa cs hk hc hg hz; have K := Lib.hid hk; have C := Lib.hid hc; have G := Lib.hid hg; clear hk hc hg hz)
        | ((with_reducible show wpList _ _ _ (_ :: _) _ _); refine wpl_over rfl 135 (.tmp 5) (.tmp 12) rfl wr.heap.size (itC x) rfl rfl _ cs K.out (itC_info x) (by rw [itC_len, C.out]) (itC_one x) ?_; intro wb hk hg hz; have K2 := Lib.hid hk; have L2 := Lib.hid (bl_g (bl_n (Below.refl _ _) G.out) hg (Nat.le_refl _)); clear hk hg hz))
      have M2 := Lib.hid (M.out.below L2.out M.out.lt)
      have LB2 := Lib.hid (below_chain LB.out L2.out)
      have ck := K2.out.cell (i := 0) (by rw [List.getElem?_toArray]; exact itC_kind x)
      have Q := Lib.hid (K2.out.part 39 (keyL x.sl.key) (itC_slkey x))
      by_cases hk : x.kind = 2
      · have hk2 : (x.kind == 2) = true := beq_iff_eq.2 hk
        have HTk2 := Lib.hid (show cntL (l.take (i + 1)) = cntL (l.take i) ++ [(x.sl.key, 1)] by rw [HTk.out, hk2]; rfl)
        have HF := Lib.hid (sumF_facts 1 (cntL (l.take i)) (cntL_one _))
        have hlen : (cntL (l.take i)).length ≤ i := by have := cntL_len (l.take i); rw [List.length_take] at this; omega
        have HN := Lib.hid (show (sumF (cntL (l.take i))).length < maxLen by have := HF.out.1; unfold maxLen; omega)
        obtain ⟨m0, hm0⟩ : ∃ m, m = valF (sumF (cntL (l.take i))) x.sl.key := ⟨_, rfl⟩
        have hmb : -100000000 ≤ m0 ∧ m0 ≤ 100000000 := by have := HF.out.2 x.sl.key; rw [hm0]; omega
        obtain ⟨hmb1, hmb2⟩ := hmb
        have HM0 := Lib.hid hm0
        clear hk hlen hm0
        go_wp2_with fail
        refine wp_region_qs (fun j0 w' => j0 ≤ 1 → (∃ M : SuM, MapIs Tryz.prog 90 vKey klK (Value.int .i64) w' w.heap.size M ∧ valF M x.sl.key = m0) ∧ w'.rangeAt wr.heap.size 39 (keyL x.sl.key)) [(0, some 0), (1, some 0), (2, some 0), (3, some 0), (4, some 1), (5, some 1), (6, none), (7, some 1), (8, none)] (by kernel_rfl) (by kernel_rfl) (by kernel_rfl) (by kernel_rfl) (by kernel_rfl) (fun _ _ _ _ _ h => h) (fun _ => ⟨⟨_, M2.out.drew, HM0.out.symm⟩, Q.out⟩) ?_
        simp only [List.map_cons, List.map_nil, List.getD_cons_succ, List.getD_cons_zero]
        (repeat (first | ((first | (refine qs_row (by rfl) 90 (.tmp 18) rfl wr.heap.size 39 rfl (keyL x.sl.key) _ (fun j w' _ h2 h => (h (by omega)).2) Tryz.underlying90 rfl (keyL_info _) ?_) | (refine qs_sum (by rfl) 241 (.tmp 16) (.tmp 19) rfl Tryz.underlying241 rfl x.sl.key rfl m0 (fun j w' _ h2 h => (h (by omega)).1) ?_)); simp only [Act.put, List.setIfInBounds_toArray, List.set_cons_zero, List.set_cons_succ]) | (refine qs_now (v := ?_) (by rfl) ?_ ?_; rotate_left 1; (· (intro w' hS; go_simp; (try (simp only [↓IntWalk.iteOmega]; go_simp)); (try simp (disch := omega) only [IntWalk.i64_in]); try with_reducible rfl)); simp only [Act.put, List.setIfInBounds_toArray, List.set_cons_zero, List.set_cons_succ]) | (refine qs_run (v := ?_) (by rfl) ?_ ?_; rotate_left 1; (· (intro j w' hS; go_simp; (try (simp only [↓IntWalk.iteOmega]; go_simp)); (try simp (disch := omega) only [IntWalk.i64_in]); try with_reducible rfl)); simp only [Act.put, List.setIfInBounds_toArray, List.set_cons_zero, List.set_cons_succ]) | (refine qs_mid (v := ?_) (by rfl) ?_ ?_; rotate_left 1; (· (intro j w' hj1 hj2 hS; go_simp; (try (simp only [↓IntWalk.iteOmega]; go_simp)); (try simp (disch := omega) only [IntWalk.i64_in]); try with_reducible rfl)); simp only [Act.put, List.setIfInBounds_toArray, List.set_cons_zero, List.set_cons_succ]) | (refine qs_skip (by rfl) ?_; simp only [Act.put, List.setIfInBounds_toArray, List.set_cons_zero, List.set_cons_succ])))
        refine qs_act ?_
        go_wp2_with ((with_reducible show wpList _ _ _ (_ :: _) _ _); refine wpl_mentry2 rfl 241 (.tmp 16) (.tmp 19) rfl keyed_key keyLaw_key Tryz.underlying241 M2.out.drew HN.out rfl x.sl.key rfl Tryz.zeroValue3 (klK_inj' _) (keyOf_key _) 0 rfl ?_; intro v0 st w3 hg hm hst; have G3 := Lib.hid hg; have M3 := Lib.hid hm; have ST := Lib.hid hst; clear hg hm hst)
        have hne := blk_ne_map M2.out K2.out
        have K3 := Lib.hid (K2.out.drew.grown G3.out (by simp; exact hne))
        have L3 := Lib.hid (show Below w.heap.size w w3 from bl_g LB2.out.drew G3.out (Nat.le_refl _))
        have hv : valF (aput (sumF (cntL (l.take i))) x.sl.key ((aget (sumF (cntL (l.take i))) x.sl.key).getD 0)) x.sl.key = m0 := by
          unfold valF
          rw [aget_put, if_pos rfl]
          exact HM0.out.symm
        have HV := Lib.hid hv
        clear hv hne
        refine ⟨fun _ => ⟨⟨_, M3.out, HV.out⟩, K3.out.part 39 (keyL x.sl.key) (itC_slkey x)⟩, ?_⟩
        (repeat (first | ((first | (refine qs_row (by rfl) 90 (.tmp 18) rfl wr.heap.size 39 rfl (keyL x.sl.key) _ (fun j w' _ h2 h => (h (by omega)).2) Tryz.underlying90 rfl (keyL_info _) ?_) | (refine qs_sum (by rfl) 241 (.tmp 16) (.tmp 19) rfl Tryz.underlying241 rfl x.sl.key rfl m0 (fun j w' _ h2 h => (h (by omega)).1) ?_)); simp only [Act.put, List.setIfInBounds_toArray, List.set_cons_zero, List.set_cons_succ]) | (refine qs_now (v := ?_) (by rfl) ?_ ?_; rotate_left 1; (· (intro w' hS; go_simp; (try (simp only [↓IntWalk.iteOmega]; go_simp)); (try simp (disch := omega) only [IntWalk.i64_in]); try with_reducible rfl)); simp only [Act.put, List.setIfInBounds_toArray, List.set_cons_zero, List.set_cons_succ]) | (refine qs_run (v := ?_) (by rfl) ?_ ?_; rotate_left 1; (· (intro j w' hS; go_simp; (try (simp only [↓IntWalk.iteOmega]; go_simp)); (try simp (disch := omega) only [IntWalk.i64_in]); try with_reducible rfl)); simp only [Act.put, List.setIfInBounds_toArray, List.set_cons_zero, List.set_cons_succ]) | (refine qs_mid (v := ?_) (by rfl) ?_ ?_; rotate_left 1; (· (intro j w' hj1 hj2 hS; go_simp; (try (simp only [↓IntWalk.iteOmega]; go_simp)); (try simp (disch := omega) only [IntWalk.i64_in]); try with_reducible rfl)); simp only [Act.put, List.setIfInBounds_toArray, List.set_cons_zero, List.set_cons_succ]) | (refine qs_skip (by rfl) ?_; simp only [Act.put, List.setIfInBounds_toArray, List.set_cons_zero, List.set_cons_succ])))
        refine qs_act ?_
        go_wp2_with ((with_reducible show wpList _ _ _ (_ :: _) _ _); refine wpl_mestore rfl 241 (.tmp 16) (.tmp 23) (.tmp 21) rfl (m0 + 1) rfl rfl rfl ST.out ?_; intro w4 hm hg; have M4 := Lib.hid hm; have G4 := Lib.hid hg; clear hm hg)
        refine ⟨fun h => absurd h (by omega), ?_⟩
        refine qs_nil ?_
        go_wp2_with fail
        go_roundg (gk - 1)
        case measure => omega
        case rel =>
          refine ⟨i + 1, by congr 1, by omega, by omega, by omega, ?_, bl_g L3.out G4.out (Nat.le_refl _)⟩
          rw [HTk2.out, sumF_snoc]
          unfold addS
          rw [← HM0.out]
          exact M4.out
      · have hk2 : (x.kind == 2) = false := beq_eq_false_iff_ne.2 hk
        have HTk2 := Lib.hid (show cntL (l.take (i + 1)) = cntL (l.take i) by rw [HTk.out, hk2]; simp)
        clear hk
        go_wp2_with fail
        go_roundg (gk - 1)
        case measure => omega
        case rel => exact ⟨i + 1, by congr 1, by omega, by omega, by omega, by rw [HTk2.out]; exact M2.out, LB2.out⟩
    · have hiI : ¬ (i : Int) < (n : Int) := by omega
      have hall := Lib.hid (show l.take i = l from List.take_of_length_le (by rw [HL.out]; omega))
      have HF := Lib.hid (sumF_facts 1 (cntL (l.take i)) (cntL_one _))
      have HSn := Lib.hid (show (sumF (cntL (l.take i))).length ≤ 100000000 by
        have := HF.out.1
        have := cntL_len (l.take i)
        rw [List.length_take] at this
        omega)
      go_wp2_with (go_at_call 135; refine (row_any M.out HSn.out).mono ?_; rintro e w2 ⟨v, rfl, ho, hb⟩; have O := Lib.hid ho; have L2 := Lib.hid hb; clear ho hb)
      go_ret
      have ho := O.out
      rw [hall.out] at ho
      exact ⟨_, rfl, own_loR ho LB.out.size, below_chain LB.out L2.out⟩
end Go.Proofs.YtpadifphnbdbpaaGreat
namespace Go.Proofs.YtpadifphnbdbpaaGreat
open Go.RowKit Go.Maps Go.Sort Go.Shelf
set_option linter.unusedVariables false
set_option linter.unusedSimpArgs false

end Go.Proofs.YtpadifphnbdbpaaGreat
