/-
  what this claim needs of: StO1, StO2 (written by cut.py).
-/
import Derived.Test.YtffalfacakdhkaaGreatDoorDStC
import Derived.Test.YtffalfacakdhkaaGreatDoorDStX
namespace Go.Proofs.YtffalfacakdhkaaGreatDoor
open Go.RowKit Go.Maps Go.Sort Go.Shelf
set_option linter.unusedVariables false
set_option linter.unusedSimpArgs false

theorem opWithin_any (n a b : Int) (w : World) : Calls Tryz.prog 253 #[.int .i64 n, .int .i64 a, .int .i64 b] w fun e w' => e = .returned (.bool (decide (a ≤ n ∧ n ≤ b))) ∧ w = w' := by
 by_cases h1 : a ≤ n
 ·by_cases h2 : n ≤ b
  ·rw [decide_eq_true (And.intro h1 h2)]
   go_enter Tryz.func253, Tryz.ntmps253
   go_wp2
   go_ret
   simp [h1, h2]
  ·rw [decide_eq_false (fun h => h2 h.2)]
   go_enter Tryz.func253, Tryz.ntmps253
   go_wp2
   go_ret
   simp [h1, h2]
 ·rw [decide_eq_false (fun h => h1 h.1)]
  go_enter Tryz.func253, Tryz.ntmps253
  go_wp2
  go_ret
  simp [h1]
/-- An op. -/
structure OpV where
 kind : Int
 pos : Int
 n : Int
 snap : Int
 news : List Fr
 puts : List Pu
def frsC (l : List Fr) : List Value := l.flatMap frC
def pusC (l : List Pu) : List Value := l.flatMap puC
def opC (o : OpV) (A : Option Addr) (c : Nat) (B : Option Addr) (d : Nat) : List Value := [.int .u8 o.kind, .int .i64 o.pos, .int .i64 o.n, .int .i64 o.snap, .slice A o.news.length c, .slice B o.puts.length d]
structure OpAt (w : World) (o : OpV) (A : Option Addr) (c : Nat) (B : Option Addr) (d : Nat) : Prop where
 news : Src w 36 (.slice A o.news.length c) o.news.length (frsC o.news)
 puts : Src w 35 (.slice B o.puts.length d) o.puts.length (pusC o.puts)
theorem OpAt.below {w w' : World} {o : OpV} {A B : Option Addr} {c d : Nat} (h : OpAt w o A c B d) (hb : Below w.heap.size w w') : OpAt w' o A c B d := ⟨h.news.below hb, h.puts.below hb⟩
theorem opC_info (o : OpV) (A : Option Addr) (c : Nat) (B : Option Addr) (d : Nat) : (Tryz.prog.info? 138).map (·.size) = some (opC o A c B d).length := by show _ = some 6; kernel_rfl
theorem frC_info (f : Fr) : (Tryz.prog.info? 244).map (·.size) = some (frC f).length := by rw [frC_len]; kernel_rfl
theorem puC_info (f : Pu) : (Tryz.prog.info? 252).map (·.size) = some (puC f).length := by rw [puC_len]; kernel_rfl
def inB (n a b : Int) : Bool := decide (a ≤ n ∧ n ≤ b)
def frB (f : Fr) : Bool := inB f.pl.pos 0 262144 && inB f.pl.sec 1 1024 && inB f.pl.uni 1 16 && decide (f.pl.ref = 0)
def puB (p : Pu) (least : Int) : Bool := inB p.unit least 511 && inB p.sl.off 0 15 && inB p.sl.mask 1 255
def putsB : List Pu → Int → Bool
 | [], _ => true
 | p :: r, least => puB p least && putsB r (p.unit + 1)
def newsB (l : List Fr) : Bool := l.all frB && decide ((l.map (·.key)).Nodup)
def writeB (o : OpV) : Bool := newsB o.news && putsB o.puts 0 && decide (o.news.length ≤ 18) && decide (o.puts.length ≤ 18)
def rightB (o : OpV) : Bool :=
 if o.kind = 1 then decide (o.pos = 0) && decide (o.n = 0) && decide (o.snap = 0) && writeB o
 else if o.kind = 2 then decide (o.news.length = 0) && decide (o.puts.length = 0) && decide (o.snap = 0) && inB o.pos 0 4096 && inB o.n 0 4096
 else if o.kind = 3 ∨ o.kind = 4 ∨ o.kind = 5 then decide (o.news.length = 0) && decide (o.puts.length = 0) && decide (o.pos = 0) && decide (o.n = 0) && inB o.snap 1 1073741824
 else false
theorem valF_fold (K : Key) : ∀ (l S : SuM), valF (l.foldl (fun S p => addS S p.1 p.2) S) K = valF S K + ((l.filter (fun p => decide (p.1 = K))).map (·.2)).sum
 | [], S => by simp
 | p :: l, S => by
  rw [List.foldl_cons, valF_fold K l, valF_add, List.filter_cons]
  by_cases h : p.1 = K
  ·simp [h]; omega
  ·simp [h]
theorem valF_sumF (K : Key) (l : SuM) : valF (sumF l) K = ((l.filter (fun p => decide (p.1 = K))).map (·.2)).sum := by
 unfold sumF
 rw [valF_fold]
 simp [valF, aget]
def onesL (l : List Fr) : SuM := l.map (fun f => (f.key, 1))
theorem ones_mem (K : Key) : ∀ l : List Fr, (1 ≤ valF (sumF (onesL l)) K ↔ K ∈ l.map (·.key)) ∧ 0 ≤ valF (sumF (onesL l)) K ∧ valF (sumF (onesL l)) K ≤ l.length
 | [] => by simp [onesL, valF_sumF]
 | f :: l => by
  have ih := ones_mem K l
  rw [valF_sumF] at ih ⊢
  unfold onesL at ih ⊢
  rw [List.map_cons, List.filter_cons]
  by_cases h : f.key = K
  ·simp only [h, decide_true, if_true, List.map_cons, List.sum_cons, List.mem_cons, true_or, iff_true, List.length_cons]
   omega
  ·have h' : ¬ K = f.key := fun e => h e.symm
   simp only [h, decide_false, Bool.false_eq_true, if_false, List.map_cons, List.mem_cons, h', false_or, List.length_cons]
   refine ⟨ih.1, ih.2.1, by omega⟩
theorem frC_pl (f : Fr) : ((frC f).drop 32).take (plC f.pl).length = plC f.pl := by
 unfold frC
 rw [List.drop_left' (keyL_len _), List.take_of_length_le (Nat.le_refl _)]
theorem frC_key (f : Fr) : ((frC f).drop 0).take (keyL f.key).length = keyL f.key := by
 unfold frC
 rw [List.drop_zero, List.take_left]
def W1I (w : World) (b : Nat) (o : OpV) (k : Nat) (iv : Value) (wr : World) : Prop :=
 ∃ i : Nat, iv = .int .i64 (i : Int) ∧ i ≤ o.news.length ∧ i + k ≤ o.news.length ∧ o.news.length ≤ i + k ∧ newsB (o.news.take i) = true ∧ MapIs Tryz.prog 179 vKey klK (Value.int .i64) wr b (sumF (onesL (o.news.take i))) ∧ Below w.heap.size w wr
def W2I (w : World) (o : OpV) (k : Nat) (lv iv : Value) (wr : World) : Prop :=
 ∃ (i : Nat) (least : Int), iv = .int .i64 (i : Int) ∧ lv = .int .i64 least ∧ 0 ≤ least ∧ least ≤ 512 ∧ i ≤ o.puts.length ∧ i + k ≤ o.puts.length ∧ o.puts.length ≤ i + k ∧ putsB o.puts 0 = putsB (o.puts.drop i) least ∧ Below w.heap.size w wr
theorem newsB_take {l : List Fr} {j : Nat} (hj : j < l.length) (h : newsB (l.take j) = true) : newsB (l.take (j + 1)) = (frB (l[j]'hj) && decide ((l[j]'hj).key ∉ (l.take j).map (·.key))) := by
 unfold newsB at h ⊢
 simp only [Bool.and_eq_true, decide_eq_true_eq] at h
 rw [List.take_succ_eq_append_getElem hj, List.all_append, h.1, List.map_append]
 simp only [List.all_cons, List.all_nil, Bool.and_true, Bool.true_and, List.map_cons, List.map_nil]
 congr 1
 rw [decide_eq_decide, List.nodup_append]
 constructor
 ·intro h1 h2
  exact h1.2.2 _ h2 _ (List.mem_singleton.2 rfl) rfl
 ·intro h1
  exact ⟨h.2, by simp, fun a ha b hb e => h1 (by rw [List.mem_singleton.1 hb] at e; rw [← e]; exact ha)⟩
theorem newsB_bad {l : List Fr} {j : Nat} (hj : j ≤ l.length) (h : newsB (l.take j) = false) : newsB l = false := by
 cases hn : newsB l with
 | false => rfl
 | true =>
  unfold newsB at h hn
  simp only [Bool.and_eq_true, decide_eq_true_eq] at hn
  have h1 : (l.take j).all frB = true := List.all_eq_true.2 fun x hx => List.all_eq_true.1 hn.1 x (List.mem_of_mem_take hx)
  have h2 : ((l.take j).map (·.key)).Nodup := hn.2.sublist ((List.take_sublist j l).map _)
  rw [h1, decide_eq_true h2] at h
  cases h
end Go.Proofs.YtffalfacakdhkaaGreatDoor
namespace Go.Proofs.YtffalfacakdhkaaGreatDoor
open Go.RowKit Go.Maps Go.Sort Go.Shelf
set_option linter.unusedVariables false
set_option linter.unusedSimpArgs false

section
variable {P : Program} {w : World} {ops : Array Oper} {rest : List Oper} {o : Oper} {a : Act} {Q : Exit → Act → World → Prop}
/-- An operation under a guard that holds. -/
theorem wpl_valG (hw : Region.wanted o (yielded ops a.tmps) = true) {v : Value} (hrun : (execOp a.eval o).run P w = .ok (.value v) w) (h : wpList P ops Q rest (a.put o.dst v) w) : wpList P ops Q (o :: rest) a w := by
 refine wpList_step fun K hK => ?_
 rw [if_pos hw]
 unfold Oper.wp
 rw [hrun]
 simp only [Oper.upon_value]
 exact hK _ _ h
theorem wpl_loadG (hw : Region.wanted o (yielded ops a.tmps) = true) (ty : TypeId) (x : Operand) (ho : o.op = .load ty x) (b off : Nat) (hx : a.eval x = .pointer (some ⟨b, off, none⟩)) (cs : List Value) (d : TypeDesc) (hc : w.rangeAt b off cs) (hu : P.underlying ty = some d) (hd : d.isRow = true) (hi : (P.info? ty).map (·.size) = some cs.length)
  (h : wpList P ops Q rest (a.put o.dst (.agg cs.toArray)) w) : wpList P ops Q (o :: rest) a w :=
 wpl_valG hw (by
  unfold execOp
  simp only [ho, hx, Instr.loadAt, Instr.sureAddr, Sem.run_bind, Sem.run_pure, Result.andThen_ok, run_loadVar_mid w b off ty cs d hc hu hd hi]) h
theorem wpl_mlookG {α β : Type} [DecidableEq α] {k : TypeId} {kv : α → Value} {kl : α → Lit} {ve : β → Value} {b : Nat} {M : List (α × β)} (hw : Region.wanted o (yielded ops a.tmps) = true) (t : TypeId) (m x : Operand) (hop : o.op = .lookup t m x false) {e : TypeId} (K : Keyed P k) (ht : P.underlying t = some (.map k e)) (h : MapIs P k kv kl ve w b M) (hm : a.eval m = .map (some b)) (X : α) (hx : a.eval x = kv X)
  {z : Value} (hz : ∀ u : World, (zeroValue e).run P u = .ok z u) (hinj : ∀ p ∈ M, kl p.1 = kl X → p.1 = X) (hkey : keyOf P k (kv X) = some (kl X)) (hK : wpList P ops Q rest (a.put o.dst (((aget M X).map ve).getD z)) w) : wpList P ops Q (o :: rest) a w :=
 wpl_valG hw (by
  have hrun := h.look K ht (hz w) hinj hkey
  unfold execOp
  simp only [hop, hm, hx, Sem.run_bind, hrun, Result.andThen_ok, Sem.run_pure]) hK
end
theorem tch_ownO {w w' : World} {b : Nat} (hg : w.grownBy w' (some b)) : Tch [b] w w' := Tch.grown hg (fun k hk => by injection hk with hk; subst hk; exact .inl (by simp))
theorem tch_ownD {w w' : World} {b : Nat} (hg : w.drew.grownBy w' (some b)) : Tch [b] w w' := tch_ownO ⟨hg.os, hg.tape, hg.output, hg.size, hg.block⟩
set_option maxRecDepth 100000 in
set_option maxHeartbeats 4000000 in
theorem opWrite_any {w : World} {o : OpV} {A : Option Addr} {c : Nat} {B : Option Addr} {d : Nat} (h : OpAt w o A c B d) (hn : o.news.length ≤ 100000000) (hm : o.puts.length ≤ 100000000) :
  Calls Tryz.prog 252 #[.agg (opC o A c B d).toArray] w fun e w' => e = .returned (.bool (writeB o)) ∧ Below w.heap.size w w' := by
 have H := yH h
 clear h
 have hmm := @run_makeMap Tryz.prog
 obtain ⟨RB, hRB⟩ : ∃ b, b = writeB o := ⟨_, rfl⟩
 have HRB := yH hRB
 rw [← hRB]
 clear hRB
 go_enter Tryz.func252, Tryz.ntmps252
 go_upto_region 1 with ((with_reducible show wpList _ _ _ (_ :: _) _ _); refine wpl_box rfl 138 (.tmp 0) rfl _ rfl ?_; intro w1 hk hg hz; have K1 := yH hk; have G1 := yH hg; clear hk hg hz)
 go_upto_region 2 with fail
 obtain ⟨w2, hw2⟩ : ∃ w2, w2 = w1.alloc (Obj.map #[] 0) := ⟨_, rfl⟩
 have M2 := yH (show MapIs Tryz.prog 179 vKey klK (Value.int .i64) w2 w1.heap.size ([] : SuM) by rw [hw2]; exact MapIs.made w1 _ _ _ _ _)
 have L2 := yH (show Below w.heap.size w w2 by rw [hw2]; exact (bl_n (Below.refl _ _) G1.out).alloc (bl_n (Below.refl w.heap.size w) G1.out).size _)
 have K2 := yH (show Blk w2 w.heap.size 138 (opC o A c B d).toArray by rw [hw2]; exact K1.out.alloc _)
 have HLt := yH (show w.heap.size < w1.heap.size from K1.out.lt)
 rw [← hw2]
 clear hw2 hmm K1 G1
 have c4 := K2.out.cell (i := 4) (v := .slice A o.news.length c) rfl
 go_wp2_with fail
 go_loopg [14] o.news.length (fun k iv wr => W1I w w1.heap.size o k iv wr ∧ Blk wr w.heap.size 138 (opC o A c B d).toArray)
 case atStart => exact ⟨⟨0, rfl, by omega, by omega, by omega, rfl, M2.out, L2.out⟩, K2.out⟩
 case round =>
  obtain ⟨⟨i, rfl, i1, i2, i3, hok, hm, hb⟩, hop⟩ := hrel
  have M := yH hm
  have LB := yH hb
  have OK := yH hok
  have KO := yH hop
  clear hm hb hok hop M2 L2 K2 c4
  by_cases hi : i < o.news.length
  ·have hiI : (i : Int) < (o.news.length : Int) := by omega
   obtain ⟨b, off, hA, hr⟩ := src_part frC_len (H.out.below LB.out).news rfl hi
   have HNB := yH (newsB_take hi OK.out)
   have HTk := yH (show onesL (o.news.take (i + 1)) = onesL (o.news.take i) ++ [(o.news[i].key, 1)] by unfold onesL; rw [List.take_succ_eq_append_getElem hi, List.map_append]; rfl)
   generalize o.news[i] = x at hr HNB HTk
   subst hA
   have Rg := yH hr
   clear hr
   go_upto_region 5 with (first
    | ((with_reducible show wpList _ _ _ (_ :: _) _ _); refine wpl_sidx rfl 135 (.tmp 12) (.tmp 14) rfl Tryz.underlying135 Tryz.sizeOf244 b off o.news.length c i rfl rfl hi ?_)
    | ((with_reducible show wpList _ _ _ (_ :: _) _ _); refine wpList_load_mid rfl 244 (.tmp 16) rfl b (off + i * 36) rfl (frC x) _ Rg.out Tryz.underlying244 rfl (frC_info x) ?_)
    | ((with_reducible show wpList _ _ _ (_ :: _) _ _); refine wpl_alloc rfl 244 rfl Tryz.zeroValue244 36 rfl ?_; intro wa cs hk hc hg hz; have K := yH hk; have C := yH hc; have G := yH hg; clear hk hc hg hz)
    | ((with_reducible show wpList _ _ _ (_ :: _) _ _); refine wpl_over rfl 244 (.tmp 5) (.tmp 17) rfl wr.heap.size (frC x) rfl rfl _ cs K.out (frC_info x) (by rw [frC_len, C.out]) (frC_one x) ?_; intro wb hk hg hz; have K3 := yH hk; have L3 := yH (bl_g (bl_n (Below.refl _ _) G.out) hg (Nat.le_refl _)); clear hk hg hz))
   have RP := yH (K3.out.part 32 (plC x.pl) (frC_pl x))
   go_upto_region 6 with (first
    | ((with_reducible show wpList _ _ _ (_ :: _) _ _); refine wpList_load_mid rfl 177 (.tmp 18) rfl wr.heap.size 32 rfl (plC x.pl) _ RP.out Tryz.underlying177 rfl (plC_info x.pl) ?_)
    | ((with_reducible show wpList _ _ _ (_ :: _) _ _); refine wpl_alloc rfl 177 rfl Tryz.zeroValue177 4 rfl ?_; intro wc cs2 hk hc hg hz; have K4 := yH hk; have C4 := yH hc; have G4 := yH hg; clear hk hc hg hz)
    | ((with_reducible show wpList _ _ _ (_ :: _) _ _); refine wpl_over rfl 177 (.tmp 6) (.tmp 19) rfl wb.heap.size (plC x.pl) rfl rfl _ cs2 K4.out (plC_info x.pl) (by rw [C4.out]; rfl) (plC_one x.pl) ?_; intro wd hk hg hz; have K5 := yH hk; have G5 := yH hg; clear hk hg hz))
   have L5 := yH (show Below wr.heap.size wr wd from (bl_g (bl_n L3.out G4.out) G5.out L3.out.size))
   have L5' := yH (show Below wb.heap.size wb wd from bl_g (bl_n (Below.refl _ _) G4.out) G5.out (Nat.le_refl _))
   have K3d := yH (K3.out.below L5'.out K3.out.lt)
   have M5 := yH (M.out.below L5.out M.out.lt)
   have KO5 := yH (KO.out.below L5.out KO.out.lt)
   have LB5 := yH (below_chain LB.out L5.out)
   have Q := yH (K3d.out.part 0 (keyL x.key) (frC_key x))
   have HO := yH (ones_mem x.key (o.news.take i))
   have HF := yH (sumF_facts 1 (onesL (o.news.take i)) (fun p hp => by obtain ⟨f, _, rfl⟩ := List.mem_map.1 hp; simp))
   have HN := yH (show (sumF (onesL (o.news.take i))).length < maxLen by have := HF.out.1; unfold maxLen; unfold onesL at this; rw [List.length_map, List.length_take] at this; unfold onesL; omega)
   obtain ⟨m0, hm0⟩ : ∃ m, m = valF (sumF (onesL (o.news.take i))) x.key := ⟨_, rfl⟩
   have hmb : 0 ≤ m0 ∧ m0 ≤ 100000000 := by have := HO.out.2; rw [List.length_take] at this; rw [hm0]; omega
   obtain ⟨hmb1, hmb2⟩ := hmb
   have HM0 := yH hm0
   clear hm0 RP K3 L3 K4 C4 G4 G5 K C G M KO LB L5'
   refine wp_region_qs (fun j0 w' => j0 ≤ 1 → (∃ M : SuM, MapIs Tryz.prog 179 vKey klK (Value.int .i64) w' w1.heap.size M ∧ valF M x.key = m0) ∧ w'.rangeAt wr.heap.size 0 (keyL x.key)) [(0, some 0), (1, some 0), (2, some 0), (3, some 1), (4, some 1), (5, none), (6, some 1), (7, none)] (by kernel_rfl) (by kernel_rfl) (by kernel_rfl) (by kernel_rfl) (by kernel_rfl) (fun _ _ _ _ _ h => h) (fun _ => ⟨⟨_, M5.out.drew, HM0.out.symm⟩, Q.out⟩) ?_
   simp only [yD, yE, yF, yG]
   (repeat (first | ((first | (refine qs_row (by rfl) 179 (.tmp 21) rfl wr.heap.size 0 rfl (keyL x.key) _ (fun j w' _ h2 h => (h (by omega)).2) Tryz.underlying179 rfl (keyL_info _) ?_) | (refine qs_sum (by rfl) 435 (.tmp 20) (.tmp 22) rfl Tryz.underlying435 rfl x.key rfl m0 (fun j w' _ h2 h => (h (by omega)).1) ?_)); simp only [Act.put, yA, yB, yC]) | (refine qs_now (v := ?_) (by rfl) ?_ ?_; rotate_left 1; (· (intro w' hS; go_simp; (try (simp only [↓IntWalk.iteOmega]; go_simp)); (try simp (disch := omega) only [IntWalk.i64_in]); try with_reducible rfl)); simp only [Act.put, yA, yB, yC]) | (refine qs_run (v := ?_) (by rfl) ?_ ?_; rotate_left 1; (· (intro j w' hS; go_simp; (try (simp only [↓IntWalk.iteOmega]; go_simp)); (try simp (disch := omega) only [IntWalk.i64_in]); try with_reducible rfl)); simp only [Act.put, yA, yB, yC]) | (refine qs_mid (v := ?_) (by rfl) ?_ ?_; rotate_left 1; (· (intro j w' hj1 hj2 hS; go_simp; (try (simp only [↓IntWalk.iteOmega]; go_simp)); (try simp (disch := omega) only [IntWalk.i64_in]); try with_reducible rfl)); simp only [Act.put, yA, yB, yC]) | (refine qs_skip (by rfl) ?_; simp only [Act.put, yA, yB, yC])))
   refine qs_act ?_
   go_wp2_with ((with_reducible show wpList _ _ _ (_ :: _) _ _); refine wpl_mentry2 rfl 435 (.tmp 20) (.tmp 22) rfl keyed_key keyLaw_key Tryz.underlying435 M5.out.drew HN.out rfl x.key rfl Tryz.zeroValue3 (klK_inj' _) (keyOf_key _) 0 rfl ?_; intro v0 st w3 hg hm hst; have G3 := yH hg; have M3 := yH hm; have ST := yH hst; clear hg hm hst)
   have T3 := yH (show Tch [w1.heap.size] wd w3 from tch_ownD G3.out)
   have hne3 := blk_ne_map M5.out K3d.out
   have hne5 := blk_ne_map M5.out K5.out
   have hne0 := blk_ne_map M5.out KO5.out
   have HNe := yH (show wr.heap.size ∉ [w1.heap.size] ∧ wb.heap.size ∉ [w1.heap.size] ∧ w.heap.size ∉ [w1.heap.size] by simp; exact ⟨hne3, hne5, hne0⟩)
   have K3e := yH (K3d.out.tch T3.out HNe.out.1)
   have hv : valF (aput (sumF (onesL (o.news.take i))) x.key ((aget (sumF (onesL (o.news.take i))) x.key).getD 0)) x.key = m0 := by
    unfold valF
    rw [aget_put, if_pos rfl]
    exact HM0.out.symm
   have HV := yH hv
   clear hv hne3 hne5 hne0
   refine ⟨fun _ => ⟨⟨_, M3.out, HV.out⟩, K3e.out.part 0 (keyL x.key) (frC_key x)⟩, ?_⟩
   (repeat (first | ((first | (refine qs_row (by rfl) 179 (.tmp 21) rfl wr.heap.size 0 rfl (keyL x.key) _ (fun j w' _ h2 h => (h (by omega)).2) Tryz.underlying179 rfl (keyL_info _) ?_) | (refine qs_sum (by rfl) 435 (.tmp 20) (.tmp 22) rfl Tryz.underlying435 rfl x.key rfl m0 (fun j w' _ h2 h => (h (by omega)).1) ?_)); simp only [Act.put, yA, yB, yC]) | (refine qs_now (v := ?_) (by rfl) ?_ ?_; rotate_left 1; (· (intro w' hS; go_simp; (try (simp only [↓IntWalk.iteOmega]; go_simp)); (try simp (disch := omega) only [IntWalk.i64_in]); try with_reducible rfl)); simp only [Act.put, yA, yB, yC]) | (refine qs_run (v := ?_) (by rfl) ?_ ?_; rotate_left 1; (· (intro j w' hS; go_simp; (try (simp only [↓IntWalk.iteOmega]; go_simp)); (try simp (disch := omega) only [IntWalk.i64_in]); try with_reducible rfl)); simp only [Act.put, yA, yB, yC]) | (refine qs_mid (v := ?_) (by rfl) ?_ ?_; rotate_left 1; (· (intro j w' hj1 hj2 hS; go_simp; (try (simp only [↓IntWalk.iteOmega]; go_simp)); (try simp (disch := omega) only [IntWalk.i64_in]); try with_reducible rfl)); simp only [Act.put, yA, yB, yC]) | (refine qs_skip (by rfl) ?_; simp only [Act.put, yA, yB, yC])))
   refine qs_act ?_
   go_wp2_with ((with_reducible show wpList _ _ _ (_ :: _) _ _); refine wpl_mestore rfl 435 (.tmp 20) (.tmp 26) (.tmp 24) rfl (m0 + 1) rfl rfl rfl ST.out ?_; intro w4 hm hg; have M6 := yH hm; have G6 := yH hg; clear hm hg)
   refine ⟨fun h => absurd h (by omega), ?_⟩
   refine qs_nil ?_
   have T6 := yH (show Tch [w1.heap.size] wd w4 from T3.out.trans (tch_ownO G6.out))
   have K6 := yH (K5.out.tch T6.out HNe.out.2.1)
   have KF := yH (K3d.out.tch T6.out HNe.out.1)
   have KO6 := yH (KO5.out.tch T6.out HNe.out.2.2)
   have LB6 := yH (show Below w.heap.size w w4 from LB5.out.trans (T6.out.toBelow LB5.out.size (fun k hk => by simp at hk; subst hk; exact Nat.le_of_lt HLt.out)))
   have p0 := K6.out.cell (i := 0) (v := .int .i64 x.pl.pos) rfl
   have p1 := K6.out.cell (i := 1) (v := .int .i64 x.pl.sec) rfl
   have p2 := K6.out.cell (i := 2) (v := .int .i64 x.pl.uni) rfl
   have p3 := K6.out.cell (i := 3) (v := .int .i64 x.pl.ref) rfl
   have Q6 := yH (KF.out.part 0 (keyL x.key) (frC_key x))
   clear K3d M5 KO5 LB5 Q HN HF T3 K3e ST M3 G3 G6 T6 K5 L5
   obtain ⟨b1, h1⟩ : ∃ b, b = inB x.pl.pos 0 262144 := ⟨_, rfl⟩
   obtain ⟨b2, h2⟩ : ∃ b, b = inB x.pl.sec 1 1024 := ⟨_, rfl⟩
   obtain ⟨b3, h3⟩ : ∃ b, b = inB x.pl.uni 1 16 := ⟨_, rfl⟩
   have C1 := yH (fun W => opWithin_any x.pl.pos 0 262144 W)
   have C2 := yH (fun W => opWithin_any x.pl.sec 1 1024 W)
   have C3 := yH (fun W => opWithin_any x.pl.uni 1 16 W)
   rw [show decide (0 ≤ x.pl.pos ∧ x.pl.pos ≤ 262144) = b1 from h1.symm] at C1
   rw [show decide (1 ≤ x.pl.sec ∧ x.pl.sec ≤ 1024) = b2 from h2.symm] at C2
   rw [show decide (1 ≤ x.pl.uni ∧ x.pl.uni ≤ 16) = b3 from h3.symm] at C3
   have HFr := yH (show frB x = (b1 && b2 && b3 && decide (x.pl.ref = 0)) by unfold frB; rw [h1, h2, h3])
   clear h1 h2 h3
   have HWF := yH (show newsB (o.news.take (i + 1)) = false → RB = false from fun h => by
    rw [HRB.out]
    unfold writeB
    rw [newsB_bad (by omega) h]
    rfl)
   go_wp2_with fail
   refine (C1.out _).mono ?_
   rintro e wq ⟨rfl, rfl⟩
   cases b1
   ·have HBad := yH (HWF.out (by rw [HNB.out, HFr.out]; simp))
    go_wp2_with fail
    go_ret
    rw [HBad.out]
    exact ⟨rfl, LB6.out⟩
   go_wp2_with fail
   refine (C2.out _).mono ?_
   rintro e wq ⟨rfl, rfl⟩
   cases b2
   ·have HBad := yH (HWF.out (by rw [HNB.out, HFr.out]; simp))
    go_wp2_with fail
    go_ret
    rw [HBad.out]
    exact ⟨rfl, LB6.out⟩
   go_wp2_with fail
   refine (C3.out _).mono ?_
   rintro e wq ⟨rfl, rfl⟩
   cases b3
   ·have HBad := yH (HWF.out (by rw [HNB.out, HFr.out]; simp))
    go_wp2_with fail
    go_ret
    rw [HBad.out]
    exact ⟨rfl, LB6.out⟩
   by_cases hrf : x.pl.ref = 0
   ·have erf : (x.pl.ref == 0) = true := beq_iff_eq.2 hrf
    have HRf := yH hrf
    clear hrf
    have hlk : ((aget (aput (sumF (onesL (o.news.take i))) x.key (m0 + 1)) x.key).map (Value.int .i64)).getD (.int .i64 0) = .int .i64 (m0 + 1) := by rw [aget_put, if_pos rfl]; rfl
    have HLk := yH hlk
    clear hlk
    by_cases hm1 : m0 = 0
    ·have HM1 := yH hm1
     have hgt : ¬ 1 < m0 + 1 := by omega
     clear hm1
     go_wp2_with (first
      | ((with_reducible show wpList _ _ _ (_ :: _) _ _); refine wpl_loadG (by rfl) 179 (.tmp 50) rfl wr.heap.size 0 rfl (keyL x.key) _ Q6.out Tryz.underlying179 rfl (keyL_info _) ?_)
      | ((with_reducible show wpList _ _ _ (_ :: _) _ _); refine wpl_mlookG (by rfl) 435 (.tmp 49) (.tmp 51) rfl keyed_key Tryz.underlying435 M6.out rfl x.key rfl (Tryz.zeroValue3) (klK_inj' x.key) (keyOf_key x.key) ?_; rewrite [HLk.out]))
     go_roundg (gk - 1)
     case measure => omega
     case rel =>
      refine ⟨⟨i + 1, by congr 1, by omega, by omega, by omega, ?_, ?_, LB6.out⟩, KO6.out⟩
      ·rw [HNB.out, HFr.out, HRf.out]
       have h1 := HO.out.1
       rw [← HM0.out, HM1.out] at h1
       simp only [decide_true, Bool.and_self, Bool.true_and, Bool.and_true]
       exact decide_eq_true (fun hmem => by have := h1.2 hmem; omega)
      ·rw [HTk.out, sumF_snoc]
       unfold addS
       rw [← HM0.out]
       exact M6.out
    ·have hgt : 1 < m0 + 1 := by omega
     have HBad := yH (HWF.out (by
      have h1 := HO.out.1
      rw [← HM0.out] at h1
      rw [HNB.out, decide_eq_false (fun hn => hn (h1.1 (by omega))), Bool.and_false]))
     clear hm1
     go_wp2_with (first
      | ((with_reducible show wpList _ _ _ (_ :: _) _ _); refine wpl_loadG (by rfl) 179 (.tmp 50) rfl wr.heap.size 0 rfl (keyL x.key) _ Q6.out Tryz.underlying179 rfl (keyL_info _) ?_)
      | ((with_reducible show wpList _ _ _ (_ :: _) _ _); refine wpl_mlookG (by rfl) 435 (.tmp 49) (.tmp 51) rfl keyed_key Tryz.underlying435 M6.out rfl x.key rfl (Tryz.zeroValue3) (klK_inj' x.key) (keyOf_key x.key) ?_; rewrite [HLk.out]))
     go_ret
     rw [HBad.out]
     exact ⟨rfl, LB6.out⟩
   ·have erf : (x.pl.ref == 0) = false := beq_eq_false_iff_ne.2 hrf
    have enf : (x.pl.ref != 0) = true := bne_iff_ne.2 hrf
    have HBad := yH (HWF.out (by rw [HNB.out, HFr.out, decide_eq_false hrf]; simp))
    go_wp2_with fail
    all_goals go_ret
    all_goals (rw [HBad.out]; exact ⟨rfl, LB6.out⟩)
  ·have hiI : ¬ (i : Int) < (o.news.length : Int) := by omega
   have HNs := yH (show newsB o.news = true by have := OK.out; rw [List.take_of_length_le (by omega)] at this; exact this)
   have c5 := KO.out.cell (i := 5) (v := .slice B o.puts.length d) rfl
   clear M OK
   go_wp2_with fail
   go_loopg [7, 59] o.puts.length (fun k lv iv wr => W2I w o k lv iv wr ∧ Blk wr w.heap.size 138 (opC o A c B d).toArray)
   case atStart => exact ⟨⟨0, 0, rfl, rfl, by omega, by omega, by omega, by omega, by omega, rfl, LB.out⟩, KO.out⟩
   case round =>
    obtain ⟨⟨j, least, rfl, rfl, l1, l2, j1, j2, j3, hpb, hb⟩, hop⟩ := hrel
    have LC := yH hb
    have HP := yH hpb
    have KP := yH hop
    clear hb hpb hop LB KO c5
    by_cases hj : j < o.puts.length
    ·have hjI : (j : Int) < (o.puts.length : Int) := by omega
     obtain ⟨b, off, hA, hr⟩ := src_part puC_len (H.out.below LC.out).puts rfl hj
     have HDr := yH (show o.puts.drop j = o.puts[j] :: o.puts.drop (j + 1) from List.drop_eq_getElem_cons hj)
     generalize o.puts[j] = y at hr HDr
     subst hA
     have Rg := yH hr
     clear hr
     go_upto_region 14 with (first
      | ((with_reducible show wpList _ _ _ (_ :: _) _ _); refine wpl_sidx rfl 136 (.tmp 57) (.tmp 59) rfl Tryz.underlying136 Tryz.sizeOf252 b off o.puts.length d j rfl rfl hj ?_)
      | ((with_reducible show wpList _ _ _ (_ :: _) _ _); refine wpList_load_mid rfl 252 (.tmp 61) rfl b (off + j * 35) rfl (puC y) _ Rg.out Tryz.underlying252 rfl (puC_info y) ?_)
      | ((with_reducible show wpList _ _ _ (_ :: _) _ _); refine wpl_alloc rfl 252 rfl Tryz.zeroValue252 35 rfl ?_; intro wa cs hk hc hg hz; have K := yH hk; have C := yH hc; have G := yH hg; clear hk hc hg hz)
      | ((with_reducible show wpList _ _ _ (_ :: _) _ _); refine wpl_over rfl 252 (.tmp 9) (.tmp 62) rfl wr.heap.size (puC y) rfl rfl _ cs K.out (puC_info y) (by rw [puC_len, C.out]) (puC_one y) ?_; intro wb hk hg hz; have K3 := yH hk; have L3 := yH (bl_g (bl_n (Below.refl _ _) G.out) hg (Nat.le_refl _)); clear hk hg hz))
     have LB6 := yH (below_chain LC.out L3.out)
     have KO6 := yH (KP.out.below L3.out KP.out.lt)
     have y0 := K3.out.cell (i := 0) (v := .int .i64 y.unit) rfl
     have y1 := K3.out.cell (i := 33) (v := .int .i64 y.sl.off) (by rw [List.getElem?_toArray]; unfold puC; rw [List.getElem?_cons_succ]; exact slC_off y.sl)
     have y2 := K3.out.cell (i := 34) (v := .int .i64 y.sl.mask) (by rw [List.getElem?_toArray]; unfold puC; rw [List.getElem?_cons_succ]; exact slC_mask y.sl)
     obtain ⟨b1, h1⟩ : ∃ b, b = inB y.unit least 511 := ⟨_, rfl⟩
     obtain ⟨b2, h2⟩ : ∃ b, b = inB y.sl.off 0 15 := ⟨_, rfl⟩
     obtain ⟨b3, h3⟩ : ∃ b, b = inB y.sl.mask 1 255 := ⟨_, rfl⟩
     have C1 := yH (fun W => opWithin_any y.unit least 511 W)
     have C2 := yH (fun W => opWithin_any y.sl.off 0 15 W)
     have C3 := yH (fun W => opWithin_any y.sl.mask 1 255 W)
     rw [show decide (least ≤ y.unit ∧ y.unit ≤ 511) = b1 from h1.symm] at C1
     rw [show decide (0 ≤ y.sl.off ∧ y.sl.off ≤ 15) = b2 from h2.symm] at C2
     rw [show decide (1 ≤ y.sl.mask ∧ y.sl.mask ≤ 255) = b3 from h3.symm] at C3
     have HPb := yH (show puB y least = (b1 && b2 && b3) by unfold puB; rw [h1, h2, h3])
     have H1 := yH h1
     clear h1 h2 h3
     have HWF := yH (show puB y least = false → RB = false from fun h => by
      rw [HRB.out]
      unfold writeB
      rw [HP.out, HDr.out]
      unfold putsB
      rw [h]
      simp)
     go_wp2_with fail
     refine (C1.out _).mono ?_
     rintro e wq ⟨rfl, rfl⟩
     cases b1
     ·have HBad := yH (HWF.out (by rw [HPb.out]; simp))
      go_wp2_with fail
      go_ret
      rw [HBad.out]
      exact ⟨rfl, LB6.out⟩
     go_wp2_with fail
     refine (C2.out _).mono ?_
     rintro e wq ⟨rfl, rfl⟩
     cases b2
     ·have HBad := yH (HWF.out (by rw [HPb.out]; simp))
      go_wp2_with fail
      go_ret
      rw [HBad.out]
      exact ⟨rfl, LB6.out⟩
     go_wp2_with fail
     refine (C3.out _).mono ?_
     rintro e wq ⟨rfl, rfl⟩
     cases b3
     ·have HBad := yH (HWF.out (by rw [HPb.out]; simp))
      go_wp2_with fail
      go_ret
      rw [HBad.out]
      exact ⟨rfl, LB6.out⟩
     have hyu : least ≤ y.unit ∧ y.unit ≤ 511 := of_decide_eq_true H1.out.symm
     obtain ⟨hyu1, hyu2⟩ := hyu
     go_wp2_with fail
     go_roundg (gk - 1)
     case measure => omega
     case rel =>
      refine ⟨⟨j + 1, y.unit + 1, by congr 1, rfl, by omega, by omega, by omega, by omega, by omega, ?_, LB6.out⟩, KO6.out⟩
      rw [HP.out, HDr.out]
      show (puB y least && putsB (o.puts.drop (j + 1)) (y.unit + 1)) = _
      rw [HPb.out]
      rfl
    ·have hjI : ¬ (j : Int) < (o.puts.length : Int) := by omega
     have HPs := yH (show putsB o.puts 0 = true by rw [HP.out, List.drop_eq_nil_of_le (by omega)]; rfl)
     have c4 := KP.out.cell (i := 4) (v := .slice A o.news.length c) rfl
     have c5 := KP.out.cell (i := 5) (v := .slice B o.puts.length d) rfl
     have HR2 := yH (show RB = (decide (o.news.length ≤ 18) && decide (o.puts.length ≤ 18)) by rw [HRB.out]; unfold writeB; rw [HNs.out, HPs.out]; simp)
     by_cases h18 : o.news.length ≤ 18
     ·have h18I : (o.news.length : Int) ≤ 18 := by omega
      by_cases h19 : o.puts.length ≤ 18
      ·have h19I : (o.puts.length : Int) ≤ 18 := by omega
       go_wp2_with fail
       go_ret
       rw [HR2.out, decide_eq_true h18, decide_eq_true h19]
       exact ⟨by simp [h18I, h19I], LC.out⟩
      ·have h19I : ¬ (o.puts.length : Int) ≤ 18 := by omega
       go_wp2_with fail
       go_ret
       rw [HR2.out, decide_eq_true h18, decide_eq_false h19]
       exact ⟨by simp [h18I, h19I], LC.out⟩
     ·have h18I : ¬ (o.news.length : Int) ≤ 18 := by omega
      go_wp2_with fail
      go_ret
      rw [HR2.out, decide_eq_false h18]
      exact ⟨by simp [h18I], LC.out⟩
end Go.Proofs.YtffalfacakdhkaaGreatDoor
