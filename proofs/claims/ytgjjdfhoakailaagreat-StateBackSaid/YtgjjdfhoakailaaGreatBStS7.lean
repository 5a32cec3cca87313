/-
  what this claim needs of: StS7 (written by cut.py).
-/
import Derived.Test.YtgjjdfhoakailaaGreatBStS5
import Derived.Test.YtgjjdfhoakailaaGreatBStS6
namespace Go.Proofs.YtgjjdfhoakailaaGreat
open Go.RowKit Go.Maps Go.Sort Go.Shelf
set_option linter.unusedVariables false
set_option linter.unusedSimpArgs false

def fnV (g : Nat) : Value := .func (.func g) #[] #[]
def kvU (n : Int) : Value := .int .u8 n
def klU (n : Int) : Lit := .int .u8 n
theorem klU_inj {β : Type} {M : List (Int × β)} (x : Int) : ∀ p ∈ M, klU p.1 = klU x → p.1 = x := fun p _ h => by unfold klU at h; injection h
theorem keyOf_kvU {n : Int} (h : 0 ≤ n ∧ n < 256) : keyOf Tryz.prog 31 (kvU n) = some (klU n) := keyOf_u8 h
theorem wpl_mins {α β : Type} [DecidableEq α] {P : Program} {k : TypeId} {kv : α → Value} {kl : α → Lit} {ve : β → Value} {w : World} {b : Nat} {M : List (α × β)} {ops : Array Oper} {rest : List Oper} {o : Oper} {a : Act} {Q : Exit → Act → World → Prop} (hg : o.guard = none) (t : TypeId) (m x v : Operand) (hop : o.op = .insert t m x v) {e : TypeId} (K : Keyed P k) (ht : P.underlying t = some (.map k e)) (h : MapIs P k kv kl ve w b M) (hn : M.length < maxLen) (hm : a.eval m = .map (some b)) (X : α) (hx : a.eval x = kv X) (V : β) (hv : a.eval v = ve V)
    (hinj : ∀ p ∈ M, kl p.1 = kl X → p.1 = X) (hkey : keyOf P k (kv X) = some (kl X)) (hK : ∀ w1, MapIs P k kv kl ve w1 b (aput M X V) → w.grownBy w1 (some b) → wpList P ops Q rest (a.put o.dst undef) w1) : wpList P ops Q (o :: rest) a w := by
  refine wpList_plain hg fun K' hK' => ?_
  obtain ⟨w', hrun, h1, h2⟩ := h.update K ht hn hinj hkey V
  unfold Oper.wp
  simp [execOp, hop, hm, hx, hv, hrun, Result.andThen]
  exact hK' _ _ (hK w' h1 h2.grown)
abbrev DM := List (Int × Nat)
def doesM : DM := aput (aput (aput (aput (aput [] 1 42) 2 43) 3 44) 4 45) 5 46
def StepPost (si xi bx mi bs n : Nat) (E : ExM) (f : MpF) (M : SnM) (o : OpV) (w : World) (e : Ending) (w' : World) : Prop :=
  ∃ r E1 f' M', e = .returned (.int .i64 r) ∧ StepR n E f M o r E1 f' M' ∧ StIs w' si xi bx mi bs n E1 f' M' ∧ Tch [bx, mi, bs] w w'
theorem tch_three1 {bx mi bs : Nat} {w w' : World} (h : Tch [bx, mi] w w') : Tch [bx, mi, bs] w w' := h.mono (fun k hk => by simp at hk ⊢; omega)
theorem tch_three2 {bx mi bs : Nat} {w w' : World} (h : Tch [mi, bs] w w') : Tch [bx, mi, bs] w w' := h.mono (fun k hk => by simp at hk ⊢; omega)
theorem Off.sub {m : Nat} {T T' : List Nat} {A : Option Addr} (h : Off m T A) (hs : ∀ k ∈ T', k ∈ T) : Off m T' A := fun hm p hp hk => h hm p hp (hs _ hk)
theorem enter_run {P : Program} {f : FuncId} {fn : Func} {c : Code} (hf : P.funcs[f]? = some fn) (hname : (fn.name == "runtime.NumGoroutine") = false) (hb : fn.body = some c) (args : Array Value) (w : World) :
    (callFunc f args).run P w = .ok (.enter f args) w := by
  have h1 : fn.name ≠ "runtime.NumGoroutine" := by simpa using hname
  simp [callFunc, hf, h1, hb]
/-- Each op has its function. -/
theorem hand_any {o : OpV} (ho : rightB o = true) : ∃ fn, aget doesM o.kind = some fn ∧ (∀ args W, (callFunc fn args).run Tryz.prog W = .ok (.enter fn args) W) ∧ ∀ (w : World) (si xi bx mi bs n : Nat) (E : ExM) (f : MpF) (M : SnM) (h : StIs w si xi bx mi bs n E f M) (A : Option Addr) (c : Nat) (B : Option Addr) (d : Nat) (h0 : OpAt w o A c B d) (hA : Off o.news.length [bx, mi, bs] A) (hB : Off o.puts.length [bx, mi, bs] B) (hn : o.news.length ≤ 100000000) (hm : o.puts.length ≤ 100000000) (hE : E.length ≤ 100000000),
    Calls Tryz.prog fn #[.pointer (some ⟨si, 0, none⟩), .agg (opC o A c B d).toArray] w (StepPost si xi bx mi bs n E f M o w) := by
  obtain ⟨hk, _, hs⟩ := right_kind ho
  rcases hk with hk | hk | hk | hk | hk
  · refine ⟨42, by rw [hk]; rfl, enter_run Tryz.func42 (by kernel_rfl) rfl, fun w si xi bx mi bs n E f M h A c B d h0 hA hB hn hm hE => (write_any h o A c B d h0 (hA.sub (fun k hk => by simp at hk ⊢; omega)) (hB.sub (fun k hk => by simp at hk ⊢; omega)) hn hm hE).mono ?_⟩
    rintro e w' ⟨rfl, h1, h2⟩
    exact ⟨_, _, _, _, rfl, .inl ⟨hk, rfl, rfl, rfl, rfl⟩, h1, tch_three1 h2⟩
  · refine ⟨43, by rw [hk]; rfl, enter_run Tryz.func43 (by kernel_rfl) rfl, fun w si xi bx mi bs n E f M h A c B d h0 hA hB hn hm hE => (discard_any h o A c B d trivial).mono ?_⟩
    rintro e w' ⟨r, f', M', rfl, ⟨rfl, rfl, rfl⟩, h1, h2⟩
    exact ⟨_, _, _, _, rfl, .inr (.inl ⟨hk, rfl, rfl, rfl, rfl⟩), h1, tch_three2 h2⟩
  · refine ⟨44, by rw [hk]; rfl, enter_run Tryz.func44 (by kernel_rfl) rfl, fun w si xi bx mi bs n E f M h A c B d h0 hA hB hn hm hE => (snapshot_any h o A c B d trivial).mono ?_⟩
    rintro e w' ⟨r, f', M', rfl, hR, h1, h2⟩
    exact ⟨_, _, _, _, rfl, .inr (.inr (.inl ⟨hk, rfl, hR⟩)), h1, tch_three2 h2⟩
  · have hs1 := hs (by omega)
    refine ⟨45, by rw [hk]; rfl, enter_run Tryz.func45 (by kernel_rfl) rfl, fun w si xi bx mi bs n E f M h A c B d h0 hA hB hn hm hE => (drop_st h o A c B d (by omega)).mono ?_⟩
    rintro e w' ⟨r, f', M', rfl, ⟨rfl, rfl, rfl⟩, h1, h2⟩
    exact ⟨_, _, _, _, rfl, .inr (.inr (.inr (.inl ⟨hk, rfl, rfl, rfl, rfl⟩))), h1, tch_three2 h2⟩
  · have hs1 := hs (by omega)
    refine ⟨46, by rw [hk]; rfl, enter_run Tryz.func46 (by kernel_rfl) rfl, fun w si xi bx mi bs n E f M h A c B d h0 hA hB hn hm hE => (rollback_any h o A c B d (by omega)).mono ?_⟩
    rintro e w' ⟨r, f', M', rfl, ⟨rfl, rfl, rfl⟩, h1, h2⟩
    exact ⟨_, _, _, _, rfl, .inr (.inr (.inr (.inr ⟨hk, rfl, rfl, rfl, rfl⟩))), h1, tch_three2 h2⟩
theorem own_tch {w w' : World} {base n sz : Nat} {e : TypeId} {v : Value} {xs : List Value} {T : List Nat} (h : w.ownsRow base e sz v n xs) (hb : Tch T w w') (hT : ∀ k ∈ T, k < base) : w'.ownsRow base e sz v n xs := by
  refine ⟨h.1, h.2.imp id ?_⟩
  rintro ⟨g, cap, cur, e1, a1, a2, r⟩
  have h3 : Blk w g e cur := a2
  exact ⟨g, cap, cur, e1, a1, h3.tch hb (fun hg => by have := hT g hg; omega), r⟩
/-- What Do ends with. -/
def DoPost (si xi bx mi bs n : Nat) (E : ExM) (f : MpF) (M : SnM) (o : OpV) (w : World) (e : Ending) (w' : World) : Prop :=
  ∃ r E' f' M', e = .returned (.int .i64 r) ∧ DoR n E f M o r E' f' M' ∧ StIs w' si xi bx mi bs n E' f' M' ∧ Tch [bx, mi, bs] w w'
set_option maxRecDepth 100000 in
set_option maxHeartbeats 4000000 in
theorem do_any {w : World} {si xi bx mi bs n : Nat} {E : ExM} {f : MpF} {M : SnM} (h : StIs w si xi bx mi bs n E f M) (o : OpV) (A : Option Addr) (c : Nat) (B : Option Addr) (d : Nat) (h0 : OpAt w o A c B d) (hA : Off o.news.length [bx, mi, bs] A) (hB : Off o.puts.length [bx, mi, bs] B) (hn : o.news.length ≤ 10000000) (hm : o.puts.length ≤ 10000000) (hE : E.length ≤ 10000000) (hM : IdsOk M) (hMl : M.length ≤ 900) (hR : RefOk E) (hk0 : 0 ≤ o.kind ∧ o.kind < 256) :
    Calls Tryz.prog 14 #[.pointer (some ⟨si, 0, none⟩), .agg (opC o A c B d).toArray] w (DoPost si xi bx mi bs n E f M o w) := by
  have H := Lib.hid h
  have H0 := Lib.hid h0
  have OFA := Lib.hid hA
  have OFB := Lib.hid hB
  have HE := Lib.hid hE
  have HM := Lib.hid hM
  have HMl := Lib.hid hMl
  have HR := Lib.hid hR
  have HK := Lib.hid hk0
  have HN := Lib.hid hn
  have HM' := Lib.hid hm
  clear h h0 hA hB hE hM hMl hR hk0 hn hm
  obtain ⟨rb, hrb⟩ : ∃ b, b = rightB o := ⟨_, rfl⟩
  have HB := Lib.hid hrb
  have HRG := Lib.hid (show ∀ W : World, OpAt W o A c B d → Calls Tryz.prog 41 #[.agg (opC o A c B d).toArray] W (fun e w' => e = .returned (.bool rb) ∧ Below W.heap.size W w') from fun W hW => by rw [hrb]; exact opRight_any hW (by have := HN.out; omega) (by have := HM'.out; omega))
  clear hrb
  have hmm := @run_makeMap Tryz.prog
  cases rb
  case false =>
    go_enter Tryz.func14, Tryz.ntmps14
    go_upto_region 1 with ((with_reducible show wpList _ _ _ (_ :: _) _ _); refine wpl_box rfl 35 (.tmp 1) rfl _ rfl ?_; intro w1 hk hg hz; have K1 := Lib.hid hk; have L1 := Lib.hid (bl_n (Below.refl _ _) hg); have Z1 := Lib.hid hz; clear hk hg hz)
    have H1 := Lib.hid (H.out.below L1.out)
    have OA1 := Lib.hid (H0.out.below L1.out)
    go_upto_region 3 with (go_at_call 40; refine (st_there H1.out).mono ?_; rintro e w2 ⟨rfl, rfl⟩)
    have R1 := Lib.hid (show w1.rangeAt w.heap.size 0 (opC o A c B d) by have := K1.out.range; rwa [toArr] at this)
    go_wp2_with (first
      | ((with_reducible show wpList _ _ _ (_ :: _) _ _); refine wpList_load_mid rfl 35 (.tmp 3) rfl w.heap.size 0 rfl (opC o A c B d) _ R1.out Tryz.underlying35 rfl (opC_info o A c B d) ?_)
      | (go_at_call 41; refine (HRG.out w1 OA1.out).mono ?_; rintro e w2 ⟨rfl, hb⟩; have L2 := Lib.hid hb; clear hb))
    go_ret
    exact ⟨_, _, _, _, rfl, .inl ⟨HB.out.symm, rfl, rfl, rfl, rfl⟩, H1.out.below L2.out, Tch.below (below_chain L1.out L2.out)⟩
  case true =>
    obtain ⟨fn, hfn, hent, hcall⟩ := hand_any HB.out.symm
    have HEnt := Lib.hid hent
    have HFn := Lib.hid (show ((aget doesM o.kind).map fnV).getD .nilFunc = .func (.func fn) #[] #[] by rw [hfn]; rfl)
    have HCall := Lib.hid hcall
    clear hfn hcall hent
    go_enter Tryz.func14, Tryz.ntmps14
    go_upto_region 1 with ((with_reducible show wpList _ _ _ (_ :: _) _ _); refine wpl_box rfl 35 (.tmp 1) rfl _ rfl ?_; intro w1 hk hg hz; have K1 := Lib.hid hk; have L1 := Lib.hid (bl_n (Below.refl _ _) hg); have Z1 := Lib.hid hz; clear hk hg hz)
    have H1 := Lib.hid (H.out.below L1.out)
    have OA1 := Lib.hid (H0.out.below L1.out)
    go_upto_region 3 with (go_at_call 40; refine (st_there H1.out).mono ?_; rintro e w2 ⟨rfl, rfl⟩)
    have R1 := Lib.hid (show w1.rangeAt w.heap.size 0 (opC o A c B d) by have := K1.out.range; rwa [toArr] at this)
    go_upto_region 5 with (first
      | ((with_reducible show wpList _ _ _ (_ :: _) _ _); refine wpList_load_mid rfl 35 (.tmp 3) rfl w.heap.size 0 rfl (opC o A c B d) _ R1.out Tryz.underlying35 rfl (opC_info o A c B d) ?_)
      | (go_at_call 41; refine (HRG.out w1 OA1.out).mono ?_; rintro e w2 ⟨rfl, hb⟩; have L2 := Lib.hid hb; clear hb))
    go_upto_region 6 with (first
      | ((with_reducible show wpList _ _ _ (_ :: _) _ _); refine wpl_mins rfl 84 (.tmp 18) (.const (.int .u8 1)) (.func 42) rfl keyed_u8 Tryz.underlying84 (MapIs.made w2 Tryz.prog _ kvU klU fnV) (by decide) rfl (1 : Int) rfl 42 rfl (klU_inj _) (keyOf_kvU (by omega)) ?_; intro wd1 hm hg; have D1 := Lib.hid hm; have GD1 := Lib.hid hg; clear hm hg)
      | ((with_reducible show wpList _ _ _ (_ :: _) _ _); refine wpl_mins rfl 84 (.tmp 18) (.const (.int .u8 2)) (.func 43) rfl keyed_u8 Tryz.underlying84 D1.out (by decide) rfl (2 : Int) rfl 43 rfl (klU_inj _) (keyOf_kvU (by omega)) ?_; intro wd2 hm hg; have D2 := Lib.hid hm; have GD2 := Lib.hid hg; clear hm hg)
      | ((with_reducible show wpList _ _ _ (_ :: _) _ _); refine wpl_mins rfl 84 (.tmp 18) (.const (.int .u8 3)) (.func 44) rfl keyed_u8 Tryz.underlying84 D2.out (by decide) rfl (3 : Int) rfl 44 rfl (klU_inj _) (keyOf_kvU (by omega)) ?_; intro wd3 hm hg; have D3 := Lib.hid hm; have GD3 := Lib.hid hg; clear hm hg)
      | ((with_reducible show wpList _ _ _ (_ :: _) _ _); refine wpl_mins rfl 84 (.tmp 18) (.const (.int .u8 4)) (.func 45) rfl keyed_u8 Tryz.underlying84 D3.out (by decide) rfl (4 : Int) rfl 45 rfl (klU_inj _) (keyOf_kvU (by omega)) ?_; intro wd4 hm hg; have D4 := Lib.hid hm; have GD4 := Lib.hid hg; clear hm hg)
      | ((with_reducible show wpList _ _ _ (_ :: _) _ _); refine wpl_mins rfl 84 (.tmp 18) (.const (.int .u8 5)) (.func 46) rfl keyed_u8 Tryz.underlying84 D4.out (by decide) rfl (5 : Int) rfl 46 rfl (klU_inj _) (keyOf_kvU (by omega)) ?_; intro wd5 hm hg; have D5 := Lib.hid hm; have GD5 := Lib.hid hg; clear hm hg))
    have MD := Lib.hid (show MapIs Tryz.prog 31 kvU klU fnV wd5 w2.heap.size doesM from D5.out)
    have LD := Lib.hid (show Below w2.heap.size w2 wd5 from bl_g (bl_g (bl_g (bl_g (bl_g ((Below.refl _ _).alloc (Nat.le_refl _) _) GD1.out (Nat.le_refl _)) GD2.out (Nat.le_refl _)) GD3.out (Nat.le_refl _)) GD4.out (Nat.le_refl _)) GD5.out (Nat.le_refl _))
    clear D1 D2 D3 D4 D5 GD1 GD2 GD3 GD4 GD5 R1
    have K5 := Lib.hid (show Blk wd5 w.heap.size 35 (opC o A c B d).toArray from (K1.out.below L2.out K1.out.lt).below LD.out (by have := (K1.out.below L2.out K1.out.lt).lt; exact this))
    have L5 := Lib.hid (below_chain (below_chain L1.out L2.out) LD.out)
    have H5 := Lib.hid (H.out.below L5.out)
    have HLt := Lib.hid (show si < w.heap.size ∧ xi < w.heap.size ∧ bx < w.heap.size ∧ mi < w.heap.size ∧ bs < w.heap.size from ⟨H.out.blk.lt, H.out.idx.blk.lt, H.out.idx.map.lt, H.out.maps.blk.lt, H.out.maps.map.lt⟩)
    have HLm := Lib.hid (show ∀ g N, N.length ≤ 1000 → (mItems n g N).length ≤ 1000000 from fun g N hN => by have := mItems_len H.out.maps.high g N; omega)
    have HL1 := Lib.hid (HLm.out f M (by have := HMl.out; omega))
    have HL1' := Lib.hid (Nat.le_trans HL1.out (show 1000000 ≤ 100000000 by omega))
    clear H1 OA1 K1 L1 Z1 L2 LD HRG
    have c2 := H5.out.c2
    go_upto_region 7 with (first
      | (go_at_call 48; refine (mItems_any H5.out.maps HM.out).mono ?_; rintro e w6 ⟨v6, rfl, ho, hb⟩; have O6 := Lib.hid ho; have L6 := Lib.hid hb; clear ho hb; obtain ⟨A6, c6, rfl, -⟩ := Src.of_own O6.out)
      | (go_at_call 47; refine (count_any (Src.of_own O6.out) rfl HL1'.out).mono ?_; rintro e w7 ⟨v7, rfl, ho, hb⟩; have O7 := Lib.hid ho; have L7 := Lib.hid hb; clear ho hb))
    have L57 := Lib.hid (below_chain L6.out L7.out)
    have L07 := Lib.hid (below_chain L5.out L57.out)
    have H7 := Lib.hid (H.out.below L07.out)
    have K7 := Lib.hid (K5.out.below L57.out K5.out.lt)
    have M7 := Lib.hid (MD.out.below L57.out MD.out.lt)
    have OA7 := Lib.hid (H0.out.below L07.out)
    have R7 := Lib.hid (show w7.rangeAt w.heap.size 0 (opC o A c B d) by have := K7.out.range; rwa [toArr] at this)
    have O7' := Lib.hid (own_loR O7.out (Nat.le_trans L5.out.size L6.out.size))
    have k0 := K7.out.cell (i := 0) (v := .int .u8 o.kind) rfl
    clear H5 K5 MD L5 L6 L7 O6 c2 L57 O7
    go_wp2_with (first
      | ((with_reducible show wpList _ _ _ (_ :: _) _ _); refine wpl_mlook rfl 84 (.tmp 26) (.tmp 28) rfl keyed_u8 Tryz.underlying84 M7.out rfl o.kind rfl Tryz.zeroValue83 (klU_inj _) (keyOf_kvU HK.out) ?_; rewrite [HFn.out])
      | ((with_reducible show wpList _ _ _ (_ :: _) _ _); refine wpList_load_mid rfl 35 (.tmp 3) rfl w.heap.size 0 rfl (opC o A c B d) _ R7.out Tryz.underlying35 rfl (opC_info o A c B d) ?_))
    rw [HEnt.out]
    rw [Oper.upon_enter]
    refine (HCall.out w7 si xi bx mi bs n E f M H7.out A c B d OA7.out OFA.out OFB.out (by have := HN.out; omega) (by have := HM'.out; omega) (by have := HE.out; omega)).mono ?_
    rintro e w8 ⟨r, E1, f', M', rfl, hs, h1, h2⟩
    have HS := Lib.hid hs
    have H8 := Lib.hid h1
    have T8 := Lib.hid h2
    clear hs h1 h2
    obtain ⟨hok1, hok2, hok3⟩ := step_ok HS.out HB.out.symm HR.out HM.out HMl.out
    have HR1 := Lib.hid hok1
    have HE1 := Lib.hid (show E1.length ≤ 20000000 by have := HE.out; have := HN.out; omega)
    have HM1 := Lib.hid hok3
    clear hok1 hok2 hok3 HCall HEnt HFn HR HE HN HM' HM HMl HK M7 OA7 R7 k0 H7 hmm
    have T08 := Lib.hid (show Tch [bx, mi, bs] w w8 from (Tch.below L07.out).trans T8.out)
    by_cases hr : r = 0
    · subst hr
      have O8 := Lib.hid (own_tch O7'.out T8.out (fun k hk => by have := HLt.out; simp at hk; omega))
      have HL2 := Lib.hid (HLm.out f' M' HM1.out.1)
      have HL2' := Lib.hid (Nat.le_trans HL2.out (show 1000000 ≤ 100000000 by omega))
      have HR7 := Lib.hid (countC_ok HL1.out)
      have HR8 := Lib.hid (countC_ok HL2.out)
      have c2 := H8.out.c2
      clear O7' T8 L07
      obtain ⟨A7, c7, rfl, -⟩ := Src.of_own O8.out
      go_upto_region 11 with (first
        | (go_at_call 48; refine (mItems_any H8.out.maps HM1.out).mono ?_; rintro e w9 ⟨v9, rfl, ho, hb⟩; have O9 := Lib.hid ho; have L9 := Lib.hid hb; clear ho hb; obtain ⟨A9, c9, rfl, -⟩ := Src.of_own O9.out)
        | (go_at_call 47; refine (count_any (Src.of_own O9.out) rfl HL2'.out).mono ?_; rintro e w10 ⟨v10, rfl, ho, hb⟩; have O10 := Lib.hid ho; have L10 := Lib.hid hb; clear ho hb; obtain ⟨A10, c10, rfl, -⟩ := Src.of_own O10.out; have O8' := Lib.hid (own_belowR (own_belowR O8.out L9.out) L10.out))
        | (go_at_call 49; refine (delta_any (Src.of_own O8'.out) rfl (Src.of_own O10.out) rfl HR7.out HR8.out).mono ?_; rintro e w11 ⟨v11, rfl, ho, hb⟩; have O11 := Lib.hid ho; have L11 := Lib.hid hb; clear ho hb; obtain ⟨A11, c11, rfl, -⟩ := Src.of_own O11.out))
      obtain ⟨hdl, hdr⟩ := deltaC_ok HR7.out HR8.out
      obtain ⟨D, hD⟩ : ∃ D, D = deltaC (countC (mItems n f M)) (countC (mItems n f' M')) := ⟨_, rfl⟩
      rw [← hD] at O11 hdl hdr
      rw [← hD]
      have HD := Lib.hid hD
      have HDr := Lib.hid hdr
      have L811 := Lib.hid (below_chain (below_chain L9.out L10.out) L11.out)
      have H11 := Lib.hid (H8.out.below L811.out)
      have T11 := Lib.hid (show Tch [bx, mi, bs] w w11 from T08.out.trans (Tch.below L811.out))
      have OW := Lib.hid (show w11.ownsRow w.heap.size 89 33 (.slice A11 D.length c11) D.length (cnsC D) from own_loR O11.out (by have h1 := T08.out.size; have h2 := L9.out.size; have h3 := L10.out.size; omega))
      clear hD hdr O8 O8' O9 O10 O11 L9 L10 L11 L811 T08 H8 HR7 HR8 HL1 HL1' HL2 HL2' HLm c2
      go_loopg [45] D.length (fun k iv wr => ∃ i : Nat, iv = .int .i64 (i : Int) ∧ i ≤ D.length ∧ i + k ≤ D.length ∧ D.length ≤ i + k ∧ StIs wr si xi bx mi bs n (fixE E1 (D.take i)) f' M' ∧ Tch [bx, mi, bs] w wr ∧ wr.ownsRow w.heap.size 89 33 (.slice A11 D.length c11) D.length (cnsC D))
      case atStart => exact ⟨0, rfl, by omega, by omega, by omega, H11.out, T11.out, OW.out⟩
      case round =>
        clear H11 T11 OW
        obtain ⟨i, rfl, i1, i2, i3, h1, h2, h3⟩ := hrel
        have HI := Lib.hid h1
        have TI := Lib.hid h2
        have OI := Lib.hid h3
        clear h1 h2 h3
        by_cases hi : i < D.length
        · have hiI : (i : Int) < (D.length : Int) := by omega
          obtain ⟨b, off, hA, hr⟩ := src_part cnC_len (Src.of_own OI.out) rfl hi
          have HTk := Lib.hid (show fixE E1 (D.take (i + 1)) = wantX (fixE E1 (D.take i)) D[i].key D[i].ref by rw [List.take_succ_eq_append_getElem hi, fixE_snoc])
          have HX := Lib.hid (HDr.out D[i] (List.getElem_mem hi))
          generalize D[i] = x at hr HTk HX
          have OI2 := Lib.hid OI.out
          clear OI
          subst hA
          have Rg := Lib.hid hr
          clear hr
          go_upto_region 13 with (first
            | ((with_reducible show wpList _ _ _ (_ :: _) _ _); refine wpl_sidx rfl 85 (.tmp 43) (.tmp 45) rfl Tryz.underlying85 Tryz.sizeOf89 b off D.length c11 i rfl rfl hi ?_)
            | ((with_reducible show wpList _ _ _ (_ :: _) _ _); refine wpList_load_mid rfl 89 (.tmp 47) rfl b (off + i * 33) rfl (cnC x) _ Rg.out Tryz.underlying89 rfl (cnC_info x) ?_)
            | ((with_reducible show wpList _ _ _ (_ :: _) _ _); refine wpl_alloc rfl 89 rfl Tryz.zeroValue89 33 rfl ?_; intro wa cs hk hc hg hz; have K := Lib.hid hk; have Cs := Lib.hid hc; have G := Lib.hid hg; clear hk hc hg hz)
            | ((with_reducible show wpList _ _ _ (_ :: _) _ _); refine wpl_over rfl 89 (.tmp 9) (.tmp 48) rfl wr.heap.size (cnC x) rfl rfl _ cs K.out (cnC_info x) (by rw [cnC_len, Cs.out]) (cnC_one x) ?_; intro wb hk hg hz; have K2 := Lib.hid hk; have LB := Lib.hid (bl_g (bl_n (Below.refl _ _) G.out) hg (Nat.le_refl _)); clear hk hg hz))
          have HB2 := Lib.hid (HI.out.below LB.out)
          have OB := Lib.hid (own_belowR OI2.out LB.out)
          have hfx := fixE_ok HR1.out (D.take i)
          have HFl := Lib.hid (show (fixE E1 (D.take i)).length ≤ 1000000000 by have := hfx.2; have h2 := HE1.out; rw [List.length_take] at this; omega)
          have HFr := Lib.hid hfx.1
          have HXn := Lib.hid (show -9223372036854775808 ≤ x.ref ∧ x.ref ≤ 9223372036854775807 by have := HX.out; omega)
          clear hfx K Cs G Rg
          refine wp_region_qs (fun _ w' => (w'.cell? ⟨si, 1, none⟩ = some (.pointer (some ⟨xi, 0, none⟩)) ∧ w'.rangeAt wr.heap.size 0 (keyL x.key)) ∧ w'.cell? ⟨wr.heap.size, 32, none⟩ = some (.int .i64 x.ref)) [(0, some 1), (1, some 1), (2, some 1), (3, some 0), (4, some 1), (5, some 0), (6, some 1), (7, some 0), (8, none)] (by kernel_rfl) (by kernel_rfl) (by kernel_rfl) (by kernel_rfl) (by kernel_rfl) (fun _ _ _ _ _ h => h) ⟨⟨HB2.out.c1, K2.out.part 0 (keyL x.key) (cnC_key x)⟩, K2.out.cell (i := 32) (by rw [List.getElem?_toArray]; exact cnC_ref x)⟩ ?_
          simp only [List.map_cons, List.map_nil, List.getD_cons_succ, List.getD_cons_zero]
          (repeat (first | ((refine qs_row (by rfl) 50 (.tmp 53) rfl wr.heap.size 0 rfl (keyL x.key) _ (fun j w' _ h2 h => h.1.2) Tryz.underlying50 rfl (keyL_info _) ?_); simp only [Act.put, List.setIfInBounds_toArray, List.set_cons_zero, List.set_cons_succ]) | (refine qs_now (v := ?_) (by rfl) ?_ ?_; rotate_left 1; (· (intro w' hS; go_simp; (try (simp only [↓IntWalk.iteOmega]; go_simp)); (try simp (disch := omega) only [IntWalk.i64_in]); try with_reducible rfl)); simp only [Act.put, List.setIfInBounds_toArray, List.set_cons_zero, List.set_cons_succ]) | (refine qs_run (v := ?_) (by rfl) ?_ ?_; rotate_left 1; (· (intro j w' hS; go_simp; (try (simp only [↓IntWalk.iteOmega]; go_simp)); (try simp (disch := omega) only [IntWalk.i64_in]); try with_reducible rfl)); simp only [Act.put, List.setIfInBounds_toArray, List.set_cons_zero, List.set_cons_succ]) | (refine qs_mid (v := ?_) (by rfl) ?_ ?_; rotate_left 1; (· (intro j w' hj1 hj2 hS; go_simp; (try (simp only [↓IntWalk.iteOmega]; go_simp)); (try simp (disch := omega) only [IntWalk.i64_in]); try with_reducible rfl)); simp only [Act.put, List.setIfInBounds_toArray, List.set_cons_zero, List.set_cons_succ]) | (refine qs_skip (by rfl) ?_; simp only [Act.put, List.setIfInBounds_toArray, List.set_cons_zero, List.set_cons_succ])))
          refine qs_act ?_
          go_wp2_with (go_at_call 24; refine (x_want HB2.out.drew.idx x.key x.ref HFl.out HFr.out HXn.out).mono ?_; rintro e w14 ⟨rfl, h1, h2⟩; have X4 := Lib.hid h1; have T4 := Lib.hid h2; clear h1 h2)
          have H14 := Lib.hid (HB2.out.drew.newIdx X4.out T4.out (fun k hk => by simpa using hk))
          have hob : wr.heap.size ∉ [bx] := by have h1 := HLt.out; have h2 := TI.out.size; simp; omega
          have K5 := Lib.hid (K2.out.drew.tch T4.out hob)
          refine ⟨⟨⟨H14.out.c1, K5.out.part 0 (keyL x.key) (cnC_key x)⟩, K5.out.cell (i := 32) (by rw [List.getElem?_toArray]; exact cnC_ref x)⟩, ?_⟩
          refine qs_nil ?_
          go_wp2_with fail
          go_roundg (gk - 1)
          case measure => omega
          case rel =>
            refine ⟨i + 1, by congr 1, by omega, by omega, by omega, by rw [HTk.out]; exact H14.out, ?_, own_tch (own_belowR OB.out (Below.refl _ _).drew) T4.out (fun k hk => by have := HLt.out; simp at hk; omega)⟩
            exact (TI.out.trans (Tch.below LB.out.drew)).trans (T4.out.mono (fun k hk => by simp at hk; subst hk; simp))
        · have hiI : ¬ (i : Int) < (D.length : Int) := by omega
          have HF := Lib.hid (show StIs wr si xi bx mi bs n (fixE E1 D) f' M' by have := HI.out; rwa [List.take_of_length_le (by omega)] at this)
          clear HI
          go_wp2_with fail
          go_ret
          exact ⟨_, _, _, _, rfl, .inr ⟨HB.out.symm, _, HS.out, by rw [if_pos rfl, HD.out]⟩, HF.out, TI.out⟩
    · go_wp2_with fail
      go_ret
      exact ⟨_, _, _, _, rfl, .inr ⟨HB.out.symm, _, HS.out, (if_neg hr).symm⟩, H8.out, T08.out⟩
end Go.Proofs.YtgjjdfhoakailaaGreat
