/-
  what this claim needs of: StS6, StS7 (written by cut.py).
-/
import Derived.Test.YtffalfacakdhkaaGreatDoorDStM8
import Derived.Test.YtffalfacakdhkaaGreatDoorDStX
import Derived.Test.YtffalfacakdhkaaGreatDoorDStC
namespace Go.Proofs.YtffalfacakdhkaaGreatDoor
open Go.RowKit Go.Maps Go.Sort Go.Shelf
set_option linter.unusedVariables false
set_option linter.unusedSimpArgs false

theorem sumF_uniq (l : SuM) : Uniq (sumF l) := by
 induction l using snoc_ind with
 | nil => exact List.Pairwise.nil
 | append_singleton l p ih =>
  rw [sumF_snoc]
  unfold addS
  exact ih.put _ _
theorem rowC_mem (S : SuM) (c : Cn) : c ∈ rowCn S ↔ (c.key, c.ref) ∈ S ∧ c.ref ≠ 0 := by
 rw [(rowC_perm S).mem_iff, List.mem_map]
 constructor
 ·rintro ⟨p, hp, rfl⟩
  unfold nz at hp
  rw [List.mem_filter] at hp
  refine ⟨hp.1, ?_⟩
  have h2 := hp.2
  simp at h2
  exact h2
 ·rintro ⟨h1, h2⟩
  refine ⟨(c.key, c.ref), ?_, rfl⟩
  unfold nz
  rw [List.mem_filter]
  exact ⟨h1, by simpa using h2⟩
theorem rowC_val {S : SuM} (hu : Uniq S) {c : Cn} (h : c ∈ rowCn S) : c.ref = valF S c.key := by
 have h1 := aget_of_mem hu ((rowC_mem S c).1 h).1
 unfold valF
 rw [h1]
 rfl
theorem countC_ok {l : List It} (h : l.length ≤ 1000000) : RefsOk (countC l) := by
 have h1 := cntL_len l
 have h2 := sumF_facts 1 (cntL l) (fun p hp => by
  unfold cntL at hp
  obtain ⟨i, _, rfl⟩ := List.mem_map.1 hp
  simp)
 refine ⟨Nat.le_trans (rowC_len _) (by omega), fun c hc => ?_⟩
 have h3 := rowC_val (sumF_uniq _) hc
 have h4 := h2.2 c.key
 rw [h3]
 omega
theorem deltaC_ok {a b : List Cn} (ha : RefsOk a) (hb : RefsOk b) : (deltaC a b).length ≤ 2000000 ∧ ∀ c ∈ deltaC a b, -2000000000000000 ≤ c.ref ∧ c.ref ≤ 2000000000000000 := by
 have h := delta_bound (pre := negL a) (rest := posL b) (fun p hp => by
  rcases List.mem_append.1 hp with hp | hp
  ·obtain ⟨c, hc, rfl⟩ := List.mem_map.1 hp
   have := ha.2 c hc
   simp only
   omega
  ·obtain ⟨c, hc, rfl⟩ := List.mem_map.1 hp
   have := hb.2 c hc
   simp only
   omega) (by have h1 := ha.1; have h2 := hb.1; simp [negL, posL]; omega) (posL b).length
 rw [List.take_of_length_le (Nat.le_refl _)] at h
 refine ⟨Nat.le_trans (rowC_len _) h.1, fun c hc => ?_⟩
 have h3 := rowC_val (sumF_uniq _) hc
 rw [h3]
 exact h.2 c.key
/-- The counts are set right. -/
def fixE (E : ExM) (l : List Cn) : ExM := l.foldl (fun E c => wantX E c.key c.ref) E
theorem fixE_snoc (E : ExM) (l : List Cn) (c : Cn) : fixE E (l ++ [c]) = wantX (fixE E l) c.key c.ref := by simp [fixE, List.foldl_append]
theorem mem_adel {α β : Type} [DecidableEq α] {M : List (α × β)} {k : α} {q : α × β} (h : q ∈ adel M k) : q ∈ M := (List.mem_filter.1 h).1
theorem adel_le' {α β : Type} [DecidableEq α] (M : List (α × β)) (k : α) : (adel M k).length ≤ M.length := List.length_filter_le _ _
theorem turnX_ok {E : ExM} (h : RefOk E) (K : Key) (n : Int) : RefOk (turnX E K n) ∧ (turnX E K n).length ≤ E.length + 1 := by
 unfold turnX
 cases hg : aget E K with
 | none => exact ⟨h, Nat.le_succ _⟩
 | some p =>
  simp only
  split
  ·rename_i hw
   refine ⟨fun q hq => ?_, aput_len _ _ _⟩
   unfold aput at hq
   rcases List.mem_cons.1 hq with rfl | hq
   ·have h1 : 0 ≤ p.ref ∧ p.ref ≤ 2147483647 := h _ (aget_mem hg)
    unfold wantIn at hw
    unfold plAdd
    simp only
    omega
   ·exact h q (mem_adel hq)
  ·exact ⟨h, Nat.le_succ _⟩
theorem wantX_ok {E : ExM} (h : RefOk E) (K : Key) (n : Int) : RefOk (wantX E K n) ∧ (wantX E K n).length ≤ E.length + 1 := by
 have h1 := turnX_ok h K n
 unfold wantX
 split
 ·exact ⟨fun q hq => h1.1 q (mem_adel hq), Nat.le_trans (adel_le' _ _) h1.2⟩
 ·exact h1
theorem fixE_ok {E : ExM} (h : RefOk E) (l : List Cn) : RefOk (fixE E l) ∧ (fixE E l).length ≤ E.length + l.length := by
 induction l using snoc_ind with
 | nil => exact ⟨h, by simp [fixE]⟩
 | append_singleton l c ih =>
  rw [fixE_snoc, List.length_append, List.length_singleton]
  have := wantX_ok ih.1 c.key c.ref
  exact ⟨this.1, by omega⟩
theorem addAll_ok {E : ExM} (h : RefOk E) {l : List Fr} (hl : l.all frB = true) : RefOk (addAll E l) := by
 induction l using snoc_ind with
 | nil => exact h
 | append_singleton l p ih =>
  rw [List.all_append, Bool.and_eq_true] at hl
  have ih := ih hl.1
  rw [addAll_snoc]
  unfold addX
  split
  ·intro q hq
   unfold aput at hq
   rcases List.mem_cons.1 hq with rfl | hq
   ·have h1 : frB p = true := by simpa using hl.2
    unfold frB at h1
    simp only [Bool.and_eq_true, decide_eq_true_eq] at h1
    simp only
    omega
   ·exact ih q (mem_adel hq)
  ·exact ih
/-- What an op does, ahead of the counts. -/
def StepR (n : Nat) (E : ExM) (f : MpF) (M : SnM) (o : OpV) (r : Int) (E1 : ExM) (f' : MpF) (M' : SnM) : Prop :=
 (o.kind = 1 ∧ r = wrE n E o ∧ E1 = (if wrE n E o = 0 then addAll E o.news else E) ∧ f' = (if wrE n E o = 0 then setAll n f o.puts else f) ∧ M' = M) ∨
 (o.kind = 2 ∧ E1 = E ∧ r = clrE n o.pos o.n ∧ f' = clrF n f o.pos o.n ∧ M' = M) ∨
 (o.kind = 3 ∧ E1 = E ∧ SnapR f M o.snap r f' M') ∨
 (o.kind = 4 ∧ E1 = E ∧ r = dropE M o.snap ∧ f' = f ∧ M' = adel M o.snap) ∨
 (o.kind = 5 ∧ E1 = E ∧ r = dropE M o.snap ∧ f' = backF f M o.snap ∧ M' = M)
def DoR (n : Nat) (E : ExM) (f : MpF) (M : SnM) (o : OpV) (r : Int) (E' : ExM) (f' : MpF) (M' : SnM) : Prop :=
 (rightB o = false ∧ r = 4 ∧ E' = E ∧ f' = f ∧ M' = M) ∨
 (rightB o = true ∧ ∃ E1, StepR n E f M o r E1 f' M' ∧ E' = if r = 0 then fixE E1 (deltaC (countC (mItems n f M)) (countC (mItems n f' M'))) else E1)
theorem right_kind {o : OpV} (h : rightB o = true) : (o.kind = 1 ∨ o.kind = 2 ∨ o.kind = 3 ∨ o.kind = 4 ∨ o.kind = 5) ∧ (o.kind = 1 → writeB o = true) ∧ ((o.kind = 3 ∨ o.kind = 4 ∨ o.kind = 5) → 1 ≤ o.snap ∧ o.snap ≤ 1073741824) := by
 unfold rightB at h
 split at h
 ·rename_i hk
  simp only [Bool.and_eq_true] at h
  exact ⟨.inl hk, fun _ => h.2, fun h => by omega⟩
 ·split at h
  ·rename_i hk
   exact ⟨.inr (.inl hk), fun h => by omega, fun h => by omega⟩
  ·split at h
   ·rename_i hk
    simp only [Bool.and_eq_true] at h
    have h1 := h.2
    unfold inB at h1
    simp only [decide_eq_true_eq] at h1
    exact ⟨by omega, fun h => by omega, fun _ => h1⟩
   ·cases h
theorem step_ok {n : Nat} {E : ExM} {f : MpF} {M : SnM} {o : OpV} {r : Int} {E1 : ExM} {f' : MpF} {M' : SnM} (h : StepR n E f M o r E1 f' M') (ho : rightB o = true) (hR : RefOk E) (hM : IdsOk M) (hMl : M.length ≤ 900) : RefOk E1 ∧ E1.length ≤ E.length + o.news.length ∧ IdsOk M' := by
 obtain ⟨_, hw, hs⟩ := right_kind ho
 rcases h with ⟨hk, rfl, rfl, rfl, rfl⟩ | ⟨hk, rfl, rfl, rfl, rfl⟩ | ⟨hk, rfl, h1, h2, h3⟩ | ⟨hk, rfl, rfl, rfl, rfl⟩ | ⟨hk, rfl, rfl, rfl, rfl⟩
 ·have h1 := hw hk
  unfold writeB newsB at h1
  simp only [Bool.and_eq_true] at h1
  refine ⟨?_, ?_, hM⟩
  ·split
   ·exact addAll_ok hR h1.1.1.1.1
   ·exact hR
  ·have := addAll_len E o.news
   split <;> omega
 ·exact ⟨hR, Nat.le_add_right _ _, hM⟩
 ·refine ⟨hR, Nat.le_add_right _ _, ?_⟩
  rcases h3 with ⟨_, rfl⟩ | ⟨_, g, rfl⟩
  ·exact hM
  ·have h4 := aput_len M o.snap (g, f)
   refine ⟨by omega, fun p hp => ?_⟩
   unfold aput at hp
   rcases List.mem_cons.1 hp with rfl | hp
   ·exact hs (.inl hk)
   ·exact hM.2 p (mem_adel hp)
 ·exact ⟨hR, Nat.le_add_right _ _, Nat.le_trans (adel_le' _ _) hM.1, fun p hp => hM.2 p (mem_adel hp)⟩
 ·exact ⟨hR, Nat.le_add_right _ _, hM⟩
end Go.Proofs.YtffalfacakdhkaaGreatDoor
namespace Go.Proofs.YtffalfacakdhkaaGreatDoor
open Go.RowKit Go.Maps Go.Sort Go.Shelf
set_option linter.unusedVariables false
set_option linter.unusedSimpArgs false

def fnV (g : Nat) : Value := .func (.func g) #[] #[]
def kvU (n : Int) : Value := .int .u8 n
def klU (n : Int) : Lit := .int .u8 n
theorem klU_inj {β : Type} {M : List (Int × β)} (x : Int) : ∀ p ∈ M, klU p.1 = klU x → p.1 = x := fun p _ h => by unfold klU at h; injection h
theorem keyOf_kvU {n : Int} (h : 0 ≤ n ∧ n < 256) : keyOf Tryz.prog 134 (kvU n) = some (klU n) := keyOf_u8 h
theorem wpl_mins {α β : Type} [DecidableEq α] {P : Program} {k : TypeId} {kv : α → Value} {kl : α → Lit} {ve : β → Value} {w : World} {b : Nat} {M : List (α × β)} {ops : Array Oper} {rest : List Oper} {o : Oper} {a : Act} {Q : Exit → Act → World → Prop} (hg : o.guard = none) (t : TypeId) (m x v : Operand) (hop : o.op = .insert t m x v) {e : TypeId} (K : Keyed P k) (ht : P.underlying t = some (.map k e)) (h : MapIs P k kv kl ve w b M) (hn : M.length < maxLen) (hm : a.eval m = .map (some b)) (X : α) (hx : a.eval x = kv X) (V : β) (hv : a.eval v = ve V)
  (hinj : ∀ p ∈ M, kl p.1 = kl X → p.1 = X) (hkey : keyOf P k (kv X) = some (kl X)) (hK : ∀ w1, MapIs P k kv kl ve w1 b (aput M X V) → w.grownBy w1 (some b) → wpList P ops Q rest (a.put o.dst undef) w1) : wpList P ops Q (o :: rest) a w := by
 refine wpList_plain hg fun K' hK' => ?_
 obtain ⟨w', hrun, h1, h2⟩ := h.update K ht hn hinj hkey V
 unfold Oper.wp
 simp [execOp, hop, hm, hx, hv, hrun, Result.andThen]
 exact hK' _ _ (hK w' h1 h2.grown)
abbrev DM := List (Int × Nat)
def doesM : DM := aput (aput (aput (aput (aput [] 1 242) 2 243) 3 244) 4 245) 5 246
def StepPost (si xi bx mi bs n : Nat) (E : ExM) (f : MpF) (M : SnM) (o : OpV) (w : World) (e : Ending) (w' : World) : Prop :=
 ∃ r E1 f' M', e = .returned (.int .i64 r) ∧ StepR n E f M o r E1 f' M' ∧ StIs w' si xi bx mi bs n E1 f' M' ∧ Tch [bx, mi, bs] w w'
theorem tch_three2 {bx mi bs : Nat} {w w' : World} (h : Tch [mi, bs] w w') : Tch [bx, mi, bs] w w' := h.mono (fun k hk => by simp at hk ⊢; omega)
theorem enter_run {P : Program} {f : FuncId} {fn : Func} {c : Code} (hf : P.funcs[f]? = some fn) (hname : (fn.name == "runtime.NumGoroutine") = false) (hb : fn.body = some c) (args : Array Value) (w : World) :
  (callFunc f args).run P w = .ok (.enter f args) w := by
 have h1 : fn.name ≠ "runtime.NumGoroutine" := by simpa using hname
 simp [callFunc, hf, h1, hb]
theorem own_tch {w w' : World} {base n sz : Nat} {e : TypeId} {v : Value} {xs : List Value} {T : List Nat} (h : w.ownsRow base e sz v n xs) (hb : Tch T w w') (hT : ∀ k ∈ T, k < base) : w'.ownsRow base e sz v n xs := by
 refine ⟨h.1, h.2.imp id ?_⟩
 rintro ⟨g, cap, cur, e1, a1, a2, r⟩
 have h3 : Blk w g e cur := a2
 exact ⟨g, cap, cur, e1, a1, h3.tch hb (fun hg => by have := hT g hg; omega), r⟩
/-- What Do ends with. -/
def DoPost (si xi bx mi bs n : Nat) (E : ExM) (f : MpF) (M : SnM) (o : OpV) (w : World) (e : Ending) (w' : World) : Prop :=
 ∃ r E' f' M', e = .returned (.int .i64 r) ∧ DoR n E f M o r E' f' M' ∧ StIs w' si xi bx mi bs n E' f' M' ∧ Tch [bx, mi, bs] w w'
set_option maxRecDepth 100000 in
set_option maxHeartbeats 4000000 in
theorem do_gen {w : World} {si xi bx mi bs n : Nat} {E : ExM} {f : MpF} {M : SnM} (h : StIs w si xi bx mi bs n E f M) (o : OpV) (A : Option Addr) (c : Nat) (B : Option Addr) (d : Nat) (h0 : OpAt w o A c B d) (hA : Off o.news.length [bx, mi, bs] A) (hB : Off o.puts.length [bx, mi, bs] B) (hn : o.news.length ≤ 10000000) (hm : o.puts.length ≤ 10000000) (hE : E.length ≤ 10000000) (hM : IdsOk M) (hMl : M.length ≤ 900) (hR : RefOk E) (hk0 : 0 ≤ o.kind ∧ o.kind < 256) (hr : rightB o = true) (fn : Nat) (hfn : aget doesM o.kind = some fn) (hent : ∀ args W, (callFunc fn args).run Tryz.prog W = .ok (.enter fn args) W)
  (hcall : ∀ (w : World) (si xi bx mi bs n : Nat) (E : ExM) (f : MpF) (M : SnM) (h : StIs w si xi bx mi bs n E f M) (A : Option Addr) (c : Nat) (B : Option Addr) (d : Nat) (h0 : OpAt w o A c B d) (hA : Off o.news.length [bx, mi, bs] A) (hB : Off o.puts.length [bx, mi, bs] B) (hn : o.news.length ≤ 100000000) (hm : o.puts.length ≤ 100000000) (hE : E.length ≤ 100000000),
  Calls Tryz.prog fn #[.pointer (some ⟨si, 0, none⟩), .agg (opC o A c B d).toArray] w (StepPost si xi bx mi bs n E f M o w)) :
  Calls Tryz.prog 167 #[.pointer (some ⟨si, 0, none⟩), .agg (opC o A c B d).toArray] w (DoPost si xi bx mi bs n E f M o w) := by
 have H := yH h
 have H0 := yH h0
 have OFA := yH hA
 have OFB := yH hB
 have HE := yH hE
 have HM := yH hM
 have HMl := yH hMl
 have HR := yH hR
 have HK := yH hk0
 have HN := yH hn
 have HM' := yH hm
 clear h h0 hA hB hE hM hMl hR hk0 hn hm
 have HB := yH hr.symm
 have HRG := yH (show ∀ W : World, OpAt W o A c B d → Calls Tryz.prog 173 #[.agg (opC o A c B d).toArray] W (fun e w' => e = .returned (.bool true) ∧ Below W.heap.size W w') from fun W hW => by have h := opRight_any hW (by have := HN.out; omega) (by have := HM'.out; omega); unfold RgPost at h; rw [hr] at h; exact h)
 clear hr
 have hmm := @run_makeMap Tryz.prog
 have HEnt := yH hent
 have HFn := yH (show ((aget doesM o.kind).map fnV).getD .nilFunc = .func (.func fn) #[] #[] by rw [hfn]; rfl)
 have HCall := yH hcall
 clear hfn hcall hent
 go_enter Tryz.func167, Tryz.ntmps167
 go_upto_region 1 with ((with_reducible show wpList _ _ _ (_ :: _) _ _); refine wpl_box rfl 138 (.tmp 1) rfl _ rfl ?_; intro w1 hk hg hz; have K1 := yH hk; have L1 := yH (bl_n (Below.refl _ _) hg); have Z1 := yH hz; clear hk hg hz)
 have H1 := yH (H.out.below L1.out)
 have OA1 := yH (H0.out.below L1.out)
 go_upto_region 3 with (go_at_call 181; refine (st_there H1.out).mono ?_; rintro e w2 ⟨rfl, rfl⟩)
 have R1 := yH (show w1.rangeAt w.heap.size 0 (opC o A c B d) by have := K1.out.range; rwa [toArr] at this)
 go_upto_region 5 with (first
  | ((with_reducible show wpList _ _ _ (_ :: _) _ _); refine wpList_load_mid rfl 138 (.tmp 3) rfl w.heap.size 0 rfl (opC o A c B d) _ R1.out Tryz.underlying138 rfl (opC_info o A c B d) ?_)
  | (go_at_call 173; refine (HRG.out w1 OA1.out).mono ?_; rintro e w2 ⟨rfl, hb⟩; have L2 := yH hb; clear hb))
 go_upto_region 6 with (first
  | ((with_reducible show wpList _ _ _ (_ :: _) _ _); refine wpl_mins rfl 363 (.tmp 18) (.const (.int .u8 1)) (.func 242) rfl keyed_u8 Tryz.underlying363 (MapIs.made w2 Tryz.prog _ kvU klU fnV) (by decide) rfl (1 : Int) rfl 242 rfl (klU_inj _) (keyOf_kvU (by omega)) ?_; intro wd1 hm hg; have D1 := yH hm; have GD1 := yH hg; clear hm hg)
  | ((with_reducible show wpList _ _ _ (_ :: _) _ _); refine wpl_mins rfl 363 (.tmp 18) (.const (.int .u8 2)) (.func 243) rfl keyed_u8 Tryz.underlying363 D1.out (by decide) rfl (2 : Int) rfl 243 rfl (klU_inj _) (keyOf_kvU (by omega)) ?_; intro wd2 hm hg; have D2 := yH hm; have GD2 := yH hg; clear hm hg)
  | ((with_reducible show wpList _ _ _ (_ :: _) _ _); refine wpl_mins rfl 363 (.tmp 18) (.const (.int .u8 3)) (.func 244) rfl keyed_u8 Tryz.underlying363 D2.out (by decide) rfl (3 : Int) rfl 244 rfl (klU_inj _) (keyOf_kvU (by omega)) ?_; intro wd3 hm hg; have D3 := yH hm; have GD3 := yH hg; clear hm hg)
  | ((with_reducible show wpList _ _ _ (_ :: _) _ _); refine wpl_mins rfl 363 (.tmp 18) (.const (.int .u8 4)) (.func 245) rfl keyed_u8 Tryz.underlying363 D3.out (by decide) rfl (4 : Int) rfl 245 rfl (klU_inj _) (keyOf_kvU (by omega)) ?_; intro wd4 hm hg; have D4 := yH hm; have GD4 := yH hg; clear hm hg)
  | ((with_reducible show wpList _ _ _ (_ :: _) _ _); refine wpl_mins rfl 363 (.tmp 18) (.const (.int .u8 5)) (.func 246) rfl keyed_u8 Tryz.underlying363 D4.out (by decide) rfl (5 : Int) rfl 246 rfl (klU_inj _) (keyOf_kvU (by omega)) ?_; intro wd5 hm hg; have D5 := yH hm; have GD5 := yH hg; clear hm hg))
 have MD := yH (show MapIs Tryz.prog 134 kvU klU fnV wd5 w2.heap.size doesM from D5.out)
 have LD := yH (show Below w2.heap.size w2 wd5 from bl_g (bl_g (bl_g (bl_g (bl_g ((Below.refl _ _).alloc (Nat.le_refl _) _) GD1.out (Nat.le_refl _)) GD2.out (Nat.le_refl _)) GD3.out (Nat.le_refl _)) GD4.out (Nat.le_refl _)) GD5.out (Nat.le_refl _))
 clear D1 D2 D3 D4 D5 GD1 GD2 GD3 GD4 GD5 R1
 have K5 := yH (show Blk wd5 w.heap.size 138 (opC o A c B d).toArray from (K1.out.below L2.out K1.out.lt).below LD.out (by have := (K1.out.below L2.out K1.out.lt).lt; exact this))
 have L5 := yH (below_chain (below_chain L1.out L2.out) LD.out)
 have H5 := yH (H.out.below L5.out)
 have HLt := yH (show si < w.heap.size ∧ xi < w.heap.size ∧ bx < w.heap.size ∧ mi < w.heap.size ∧ bs < w.heap.size from ⟨H.out.blk.lt, H.out.idx.blk.lt, H.out.idx.map.lt, H.out.maps.blk.lt, H.out.maps.map.lt⟩)
 have HLm := yH (show ∀ g N, N.length ≤ 1000 → (mItems n g N).length ≤ 1000000 from fun g N hN => by have := mItems_len H.out.maps.high g N; omega)
 have HL1 := yH (HLm.out f M (by have := HMl.out; omega))
 have HL1' := yH (Nat.le_trans HL1.out (show 1000000 ≤ 100000000 by omega))
 clear H1 OA1 K1 L1 Z1 L2 LD HRG
 have c2 := H5.out.c2
 go_upto_region 7 with (first
  | (go_at_call 158; refine (mItems_any H5.out.maps HM.out).mono ?_; rintro e w6 ⟨v6, rfl, ho, hb⟩; have O6 := yH ho; have L6 := yH hb; clear ho hb; obtain ⟨A6, c6, rfl, -⟩ := Src.of_own O6.out)
  | (go_at_call 247; refine (count_any (Src.of_own O6.out) rfl HL1'.out).mono ?_; rintro e w7 ⟨v7, rfl, ho, hb⟩; have O7 := yH ho; have L7 := yH hb; clear ho hb))
 have L57 := yH (below_chain L6.out L7.out)
 have L07 := yH (below_chain L5.out L57.out)
 have H7 := yH (H.out.below L07.out)
 have K7 := yH (K5.out.below L57.out K5.out.lt)
 have M7 := yH (MD.out.below L57.out MD.out.lt)
 have OA7 := yH (H0.out.below L07.out)
 have R7 := yH (show w7.rangeAt w.heap.size 0 (opC o A c B d) by have := K7.out.range; rwa [toArr] at this)
 have O7' := yH (own_loR O7.out (Nat.le_trans L5.out.size L6.out.size))
 have k0 := K7.out.cell (i := 0) (v := .int .u8 o.kind) rfl
 clear H5 K5 MD L5 L6 L7 O6 c2 L57 O7
 go_wp2_with (first
  | ((with_reducible show wpList _ _ _ (_ :: _) _ _); refine wpl_mlook rfl 363 (.tmp 26) (.tmp 28) rfl keyed_u8 Tryz.underlying363 M7.out rfl o.kind rfl Tryz.zeroValue362 (klU_inj _) (keyOf_kvU HK.out) ?_; rewrite [HFn.out])
  | ((with_reducible show wpList _ _ _ (_ :: _) _ _); refine wpList_load_mid rfl 138 (.tmp 3) rfl w.heap.size 0 rfl (opC o A c B d) _ R7.out Tryz.underlying138 rfl (opC_info o A c B d) ?_))
 rw [HEnt.out]
 rw [Oper.upon_enter]
 refine (HCall.out w7 si xi bx mi bs n E f M H7.out A c B d OA7.out OFA.out OFB.out (by have := HN.out; omega) (by have := HM'.out; omega) (by have := HE.out; omega)).mono ?_
 rintro e w8 ⟨r, E1, f', M', rfl, hs, h1, h2⟩
 have HS := yH hs
 have H8 := yH h1
 have T8 := yH h2
 clear hs h1 h2
 obtain ⟨hok1, hok2, hok3⟩ := step_ok HS.out HB.out.symm HR.out HM.out HMl.out
 have HR1 := yH hok1
 have HE1 := yH (show E1.length ≤ 20000000 by have := HE.out; have := HN.out; omega)
 have HM1 := yH hok3
 clear hok1 hok2 hok3 HCall HEnt HFn HR HE HN HM' HM HMl HK M7 OA7 R7 k0 H7 hmm
 have T08 := yH (show Tch [bx, mi, bs] w w8 from (Tch.below L07.out).trans T8.out)
 by_cases hr : r = 0
 ·subst hr
  have O8 := yH (own_tch O7'.out T8.out (fun k hk => by have := HLt.out; simp at hk; omega))
  have HL2 := yH (HLm.out f' M' HM1.out.1)
  have HL2' := yH (Nat.le_trans HL2.out (show 1000000 ≤ 100000000 by omega))
  have HR7 := yH (countC_ok HL1.out)
  have HR8 := yH (countC_ok HL2.out)
  have c2 := H8.out.c2
  clear O7' T8 L07
  obtain ⟨A7, c7, rfl, -⟩ := Src.of_own O8.out
  go_upto_region 11 with (first
   | (go_at_call 158; refine (mItems_any H8.out.maps HM1.out).mono ?_; rintro e w9 ⟨v9, rfl, ho, hb⟩; have O9 := yH ho; have L9 := yH hb; clear ho hb; obtain ⟨A9, c9, rfl, -⟩ := Src.of_own O9.out)
   | (go_at_call 247; refine (count_any (Src.of_own O9.out) rfl HL2'.out).mono ?_; rintro e w10 ⟨v10, rfl, ho, hb⟩; have O10 := yH ho; have L10 := yH hb; clear ho hb; obtain ⟨A10, c10, rfl, -⟩ := Src.of_own O10.out; have O8' := yH (own_belowR (own_belowR O8.out L9.out) L10.out))
   | (go_at_call 248; refine (delta_any (Src.of_own O8'.out) rfl (Src.of_own O10.out) rfl HR7.out HR8.out).mono ?_; rintro e w11 ⟨v11, rfl, ho, hb⟩; have O11 := yH ho; have L11 := yH hb; clear ho hb; obtain ⟨A11, c11, rfl, -⟩ := Src.of_own O11.out))
  obtain ⟨hdl, hdr⟩ := deltaC_ok HR7.out HR8.out
  obtain ⟨D, hD⟩ : ∃ D, D = deltaC (countC (mItems n f M)) (countC (mItems n f' M')) := ⟨_, rfl⟩
  rw [← hD] at O11 hdl hdr
  rw [← hD]
  have HD := yH hD
  have HDr := yH hdr
  have L811 := yH (below_chain (below_chain L9.out L10.out) L11.out)
  have H11 := yH (H8.out.below L811.out)
  have T11 := yH (show Tch [bx, mi, bs] w w11 from T08.out.trans (Tch.below L811.out))
  have OW := yH (show w11.ownsRow w.heap.size 368 33 (.slice A11 D.length c11) D.length (cnsC D) from own_loR O11.out (by have h1 := T08.out.size; have h2 := L9.out.size; have h3 := L10.out.size; omega))
  clear hD hdr O8 O8' O9 O10 O11 L9 L10 L11 L811 T08 H8 HR7 HR8 HL1 HL1' HL2 HL2' HLm c2
  go_loopg [45] D.length (fun k iv wr => ∃ i : Nat, iv = .int .i64 (i : Int) ∧ i ≤ D.length ∧ i + k ≤ D.length ∧ D.length ≤ i + k ∧ StIs wr si xi bx mi bs n (fixE E1 (D.take i)) f' M' ∧ Tch [bx, mi, bs] w wr ∧ wr.ownsRow w.heap.size 368 33 (.slice A11 D.length c11) D.length (cnsC D))
  case atStart => exact ⟨0, rfl, by omega, by omega, by omega, H11.out, T11.out, OW.out⟩
  case round =>
   clear H11 T11 OW
   obtain ⟨i, rfl, i1, i2, i3, h1, h2, h3⟩ := hrel
   have HI := yH h1
   have TI := yH h2
   have OI := yH h3
   clear h1 h2 h3
   by_cases hi : i < D.length
   ·have hiI : (i : Int) < (D.length : Int) := by omega
    obtain ⟨b, off, hA, hr⟩ := src_part cnC_len (Src.of_own OI.out) rfl hi
    have HTk := yH (show fixE E1 (D.take (i + 1)) = wantX (fixE E1 (D.take i)) D[i].key D[i].ref by rw [List.take_succ_eq_append_getElem hi, fixE_snoc])
    have HX := yH (HDr.out D[i] (List.getElem_mem hi))
    generalize D[i] = x at hr HTk HX
    have OI2 := yH OI.out
    clear OI
    subst hA
    have Rg := yH hr
    clear hr
    go_upto_region 13 with (first
     | ((with_reducible show wpList _ _ _ (_ :: _) _ _); refine wpl_sidx rfl 364 (.tmp 43) (.tmp 45) rfl Tryz.underlying364 Tryz.sizeOf368 b off D.length c11 i rfl rfl hi ?_)
     | ((with_reducible show wpList _ _ _ (_ :: _) _ _); refine wpList_load_mid rfl 368 (.tmp 47) rfl b (off + i * 33) rfl (cnC x) _ Rg.out Tryz.underlying368 rfl (cnC_info x) ?_)
     | ((with_reducible show wpList _ _ _ (_ :: _) _ _); refine wpl_alloc rfl 368 rfl Tryz.zeroValue368 33 rfl ?_; intro wa cs hk hc hg hz; have K := yH hk; have Cs := yH hc; have G := yH hg; clear hk hc hg hz)
     | ((with_reducible show wpList _ _ _ (_ :: _) _ _); refine wpl_over rfl 368 (.tmp 9) (.tmp 48) rfl wr.heap.size (cnC x) rfl rfl _ cs K.out (cnC_info x) (by rw [cnC_len, Cs.out]) (cnC_one x) ?_; intro wb hk hg hz; have K2 := yH hk; have LB := yH (bl_g (bl_n (Below.refl _ _) G.out) hg (Nat.le_refl _)); clear hk hg hz))
    have HB2 := yH (HI.out.below LB.out)
    have OB := yH (own_belowR OI2.out LB.out)
    have hfx := fixE_ok HR1.out (D.take i)
    have HFl := yH (show (fixE E1 (D.take i)).length ≤ 1000000000 by have := hfx.2; have h2 := HE1.out; rw [List.length_take] at this; omega)
    have HFr := yH hfx.1
    have HXn := yH (show -9223372036854775808 ≤ x.ref ∧ x.ref ≤ 9223372036854775807 by have := HX.out; omega)
    clear hfx K Cs G Rg
    refine wp_region_qs (fun _ w' => (w'.cell? ⟨si, 1, none⟩ = some (.pointer (some ⟨xi, 0, none⟩)) ∧ w'.rangeAt wr.heap.size 0 (keyL x.key)) ∧ w'.cell? ⟨wr.heap.size, 32, none⟩ = some (.int .i64 x.ref)) [(0, some 1), (1, some 1), (2, some 1), (3, some 0), (4, some 1), (5, some 0), (6, some 1), (7, some 0), (8, none)] (by kernel_rfl) (by kernel_rfl) (by kernel_rfl) (by kernel_rfl) (by kernel_rfl) (fun _ _ _ _ _ h => h) ⟨⟨HB2.out.c1, K2.out.part 0 (keyL x.key) (cnC_key x)⟩, K2.out.cell (i := 32) (by rw [List.getElem?_toArray]; exact cnC_ref x)⟩ ?_
    simp only [yD, yE, yF, yG]
    (repeat (first | ((refine qs_row (by rfl) 179 (.tmp 53) rfl wr.heap.size 0 rfl (keyL x.key) _ (fun j w' _ h2 h => h.1.2) Tryz.underlying179 rfl (keyL_info _) ?_); simp only [Act.put, yA, yB, yC]) | (refine qs_mid (v := ?_) (by rfl) ?_ ?_; rotate_left 1; (· (intro j w' hj1 hj2 hS; go_simp; (try (simp only [↓IntWalk.iteOmega]; go_simp)); (try simp (disch := omega) only [IntWalk.i64_in]); try with_reducible rfl)); simp only [Act.put, yA, yB, yC]) | (refine qs_skip (by rfl) ?_; simp only [Act.put, yA, yB, yC])))
    refine qs_act ?_
    go_wp2_with (go_at_call 249; refine (x_want HB2.out.drew.idx x.key x.ref HFl.out HFr.out HXn.out).mono ?_; rintro e w14 ⟨rfl, h1, h2⟩; have X4 := yH h1; have T4 := yH h2; clear h1 h2)
    have H14 := yH (HB2.out.drew.newIdx X4.out T4.out (fun k hk => by simpa using hk))
    have hob : wr.heap.size ∉ [bx] := by have h1 := HLt.out; have h2 := TI.out.size; simp; omega
    have K5 := yH (K2.out.drew.tch T4.out hob)
    refine ⟨⟨⟨H14.out.c1, K5.out.part 0 (keyL x.key) (cnC_key x)⟩, K5.out.cell (i := 32) (by rw [List.getElem?_toArray]; exact cnC_ref x)⟩, ?_⟩
    refine qs_nil ?_
    go_wp2_with fail
    go_roundg (gk - 1)
    case measure => omega
    case rel =>
     refine ⟨i + 1, by congr 1, by omega, by omega, by omega, by rw [HTk.out]; exact H14.out, ?_, own_tch (own_belowR OB.out (Below.refl _ _).drew) T4.out (fun k hk => by have := HLt.out; simp at hk; omega)⟩
     exact (TI.out.trans (Tch.below LB.out.drew)).trans (T4.out.mono (fun k hk => by simp at hk; subst hk; simp))
   ·have hiI : ¬ (i : Int) < (D.length : Int) := by omega
    have HF := yH (show StIs wr si xi bx mi bs n (fixE E1 D) f' M' by have := HI.out; rwa [List.take_of_length_le (by omega)] at this)
    clear HI
    go_wp2_with fail
    go_ret
    exact ⟨_, _, _, _, rfl, .inr ⟨HB.out.symm, _, HS.out, by rw [if_pos rfl, HD.out]⟩, HF.out, TI.out⟩
 ·go_wp2_with fail
  go_ret
  exact ⟨_, _, _, _, rfl, .inr ⟨HB.out.symm, _, HS.out, (if_neg hr).symm⟩, H8.out, T08.out⟩
end Go.Proofs.YtffalfacakdhkaaGreatDoor
