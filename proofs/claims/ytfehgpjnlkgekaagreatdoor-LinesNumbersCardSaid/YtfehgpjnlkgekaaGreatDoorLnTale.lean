/-
  peatbankkit: LentStat, LentTale, SameStat, SameTale, KeptStat, KeptTale, walked.
-/
import Derived.Test.YtfehgpjnlkgekaaGreatDoorLnTw
import Derived.Test.YtfehgpjnlkgekaaGreatDoorLnSame
import Derived.Test.YtfehgpjnlkgekaaGreatDoorKitInts
import Derived.Test.YtfehgpjnlkgekaaGreatDoorKitLent
namespace Go.Proofs.YtfehgpjnlkgekaaGreatDoor
open Go.RowKit
set_option linter.unusedVariables false
set_option linter.unusedSimpArgs false

theorem wpl_store_part {P : Program} {ops : Array Oper} {rest : List Oper} {op : Oper} {a : Act} {Q : Exit → Act → World → Prop} {w : World} (hgd : op.guard = none) (ty : TypeId) (x y : Operand) (ho : op.op = .store ty x y) (g o : Nat) (vs : Array Value) (hx : a.eval x = .pointer (some ⟨g, o, none⟩)) (hy : a.eval y = .agg vs)
    (t : TypeId) (cs : Array Value) (hb : Blk w g t cs) (m : Nat) (hi : (P.info? ty).map (·.size) = some m) (hm : o + m ≤ cs.size) (hv : vs.size = m) (h1 : ∀ v ∈ vs.toList, v.oneCell' = true)
    (h : ∀ w1, Blk w1 g t (putAt cs o vs.toList) → w.grownBy w1 (some g) → w1.heap.size = w.heap.size → wpList P ops Q rest (a.put op.dst undef) w1) : wpList P ops Q (op :: rest) a w := by
  refine wpList_store_mid hgd ty x y ho g o vs hx hy (hb.isThere o _ (by omega)) (by rw [hi, hv]) (by have := all_oneCell_toArray h1; simpa using this) (h _ ?_ (grown_setCells _ w o).1 (grown_setCells _ w o).2)
  exact Blk.puts vs.toList w cs o hb
theorem infoStat : (Tryz.prog.info? 45).map (·.size) = some 10 := by kernel_rfl
theorem infoTale : (Tryz.prog.info? 47).map (·.size) = some 13 := by kernel_rfl
theorem one_stat {v0 v1 v2 v3 v4 v5 v6 v7 v8 : Int} {S : Value} (h : S.oneCell' = true) : ∀ v ∈ (statV v0 v1 v2 v3 v4 v5 v6 v7 v8 S).toList, v.oneCell' = true := by
  intro v hv
  simp only [statV, List.mem_cons, List.not_mem_nil, or_false] at hv
  rcases hv with rfl | rfl | rfl | rfl | rfl | rfl | rfl | rfl | rfl | rfl <;> first | rfl | exact h
theorem one_tale {e sn v0 v1 v2 v3 v4 v5 v6 v7 v8 : Int} {B S : Value} (hB : B.oneCell' = true) (h : S.oneCell' = true) : ∀ v ∈ (taleV e sn B v0 v1 v2 v3 v4 v5 v6 v7 v8 S).toList, v.oneCell' = true := by
  intro v hv
  simp only [taleV, List.mem_cons, List.not_mem_nil, or_false] at hv
  rcases hv with rfl | rfl | rfl | rfl | rfl | rfl | rfl | rfl | rfl | rfl | rfl | rfl | rfl <;> first | rfl | exact h | exact hB
def LentStatPost (v0 v1 v2 v3 v4 v5 v6 v7 v8 : Int) (sl : List Int) (n : Nat) (w : World) (e : Ending) (w' : World) : Prop :=
  ∃ g c, e = .returned (.agg (statV v0 v1 v2 v3 v4 v5 v6 v7 v8 (.slice (some ⟨g, 0, none⟩) n c))) ∧ n + 12 ≤ c ∧ w'.ownsRow w.heap.size 3 1 (.slice (some ⟨g, 0, none⟩) (n + 12) c) (n + 12) ((sl ++ marksTo 12).map (Value.int .i64)) ∧ Below w.heap.size w w'
set_option maxHeartbeats 800000 in
theorem lent_stat (v0 v1 v2 v3 v4 v5 v6 v7 v8 : Int) (sl : List Int) (A : Option Addr) (n c0 : Nat) (w : World) (hS : RdI .i64 w A n sl) (hn : n ≤ 1000000000) :
    Calls Tryz.prog 73 #[.agg (statV v0 v1 v2 v3 v4 v5 v6 v7 v8 (.slice A n c0))] w (LentStatPost v0 v1 v2 v3 v4 v5 v6 v7 v8 sl n w) := by
  have HS := Lib.hid hS
  clear hS
  unfold statV
  go_enter Tryz.func73, Tryz.ntmps73
  go_wp2_with fail
  obtain ⟨wa, hwa⟩ : ∃ wa, wa = (w.alloc (Obj.cells (statV v0 v1 v2 v3 v4 v5 v6 v7 v8 (.slice A n c0)) 45)).alloc (Obj.cells (statV 0 0 0 0 0 0 0 0 0 (.slice none 0 0)) 45) := ⟨_, rfl⟩
  have K1 := Lib.hid (show Blk wa w.heap.size 45 (statV v0 v1 v2 v3 v4 v5 v6 v7 v8 (.slice A n c0)) by rw [hwa]; exact (Blk.made _ _ _).alloc _)
  have K2 := Lib.hid (show Blk wa (w.heap.size + 1) 45 (statV 0 0 0 0 0 0 0 0 0 (.slice none 0 0)) by rw [hwa]; exact Blk.made_at _ _ _ (by simp))
  have La := Lib.hid (show Below w.heap.size w wa by rw [hwa]; exact (((Below.refl _ _).alloc (Nat.le_refl _) _).alloc (by simp) _))
  unfold statV at hwa
  rw [← hwa]
  clear hwa
  refine (lent_ints sl A n c0 wa (HS.out.below La.out) hn).mono ?_
  rintro ev wb ⟨g, c, rfl, hc, ho, hb⟩
  have HO := Lib.hid (own_base8 ho La.out.size)
  have K1b := Lib.hid (K1.out.below hb K1.out.lt)
  have K2b := Lib.hid (K2.out.below hb K2.out.lt)
  have Lb := Lib.hid (below_chain La.out hb)
  clear ho hb K1 K2
  have x8 := K1b.out.cell (i := 8) rfl
  have f8 := K1b.out.free 8
  have P1 : Hid (Blk (wb.setCell ⟨w.heap.size, 8, none⟩ (.slice (some ⟨g, 0, none⟩) n c)) w.heap.size 45 (statV v0 v1 v2 v3 v4 v5 v6 v7 v8 (.slice (some ⟨g, 0, none⟩) n c))) := Lib.hid (K1b.out.put 8 _)
  have P2 := Lib.hid (K2b.out.else_ (p := ⟨w.heap.size, 8, none⟩) (by simp only; omega) (.slice (some ⟨g, 0, none⟩) n c))
  have O1 := Lib.hid (HO.out.kept (grown_put wb ⟨w.heap.size, 8, none⟩ (.slice (some ⟨g, 0, none⟩) n c)) (ty_apartL K1b.out HO.out (by decide)))
  have L1 := Lib.hid (below_of_grown Lb.out (grown_put wb ⟨w.heap.size, 8, none⟩ (.slice (some ⟨g, 0, none⟩) n c)) (fun k hk => by have := Option.some.inj hk; simp only at this; omega))
  go_wp2_with (first
    | (refine wpl_load_blk rfl 45 (.tmp 1) rfl w.heap.size rfl _ _ P1.out _ Tryz.underlying45 rfl 10 infoStat rfl ?_)
    | (refine wpl_store_blk rfl 45 (.tmp 2) (.tmp 7) rfl (w.heap.size + 1) _ rfl rfl _ _ P2.out 10 infoStat rfl rfl (one_stat (S := .slice (some ⟨g, 0, none⟩) n c) rfl) ?_; intro w1 hk1 hg1 hs1; have K := Lib.hid hk1; have O2 := Lib.hid (O1.out.kept hg1 (ty_apartL P2.out O1.out (by decide))); have L2 := Lib.hid (below_of_grown L1.out hg1 (fun k hk => by have := Option.some.inj hk; omega)); clear hk1 hg1 hs1))
  refine bodyPost_ret (results_blk rfl _ (w.heap.size + 1) rfl _ _ K.out _ Tryz.underlying45 rfl 10 infoStat rfl) rfl ?_
  exact ⟨g, c, rfl, hc, O2.out, L2.out⟩
theorem wpl_load_part {P : Program} {ops : Array Oper} {rest : List Oper} {op : Oper} {a : Act} {Q : Exit → Act → World → Prop} {w : World} (hgd : op.guard = none) (ty : TypeId) (x : Operand) (ho : op.op = .load ty x) (g o : Nat) (hx : a.eval x = .pointer (some ⟨g, o, none⟩))
    (t : TypeId) (cs : Array Value) (hb : Blk w g t cs) (vs : List Value) (hvs : (cs.toList.drop o).take vs.length = vs) (d : TypeDesc) (hu : P.underlying ty = some d) (hd : d.isRow = true) (hi : (P.info? ty).map (·.size) = some vs.length)
    (h : wpList P ops Q rest (a.put op.dst (.agg vs.toArray)) w) : wpList P ops Q (op :: rest) a w := by
  refine wpList_load_mid hgd ty x ho g o hx vs d (fun j v hv => ?_) hu hd (by rw [hi]) h
  rw [hb.cellq]
  have hj : j < vs.length := by
    rcases Nat.lt_or_ge j vs.length with h' | h'
    · exact h'
    · rw [List.getElem?_eq_none h'] at hv; cases hv
  have e : vs[j]? = ((cs.toList.drop o).take vs.length)[j]? := by rw [hvs]
  rw [e, List.getElem?_take, if_pos hj, List.getElem?_drop] at hv
  simpa using hv
theorem put_tale (e sn : Int) (B S T : Value) (v0 v1 v2 v3 v4 v5 v6 v7 v8 : Int) : putAt (taleV e sn B v0 v1 v2 v3 v4 v5 v6 v7 v8 S) 3 (statV v0 v1 v2 v3 v4 v5 v6 v7 v8 T).toList = taleV e sn B v0 v1 v2 v3 v4 v5 v6 v7 v8 T := by
  simp [taleV, statV, putAt]
def LentTalePost (e sn : Int) (bs : List Int) (bn : Nat) (v0 v1 v2 v3 v4 v5 v6 v7 v8 : Int) (sl : List Int) (n : Nat) (w : World) (ev : Ending) (w' : World) : Prop :=
  ∃ g c g' c', ev = .returned (.agg (taleV e sn (.slice (some ⟨g, 0, none⟩) bn c) v0 v1 v2 v3 v4 v5 v6 v7 v8 (.slice (some ⟨g', 0, none⟩) n c'))) ∧ bn + 12 ≤ c ∧ n + 12 ≤ c' ∧ w'.ownsRow w.heap.size 5 1 (.slice (some ⟨g, 0, none⟩) (bn + 12) c) (bn + 12) ((bs ++ marks8 12).map (Value.int .u8)) ∧
    w'.ownsRow w.heap.size 3 1 (.slice (some ⟨g', 0, none⟩) (n + 12) c') (n + 12) ((sl ++ marksTo 12).map (Value.int .i64)) ∧ Below w.heap.size w w'
set_option maxHeartbeats 1600000 in
theorem lent_tale (e sn : Int) (bs : List Int) (BA SA : Option Addr) (bn bc n sc : Nat) (v0 v1 v2 v3 v4 v5 v6 v7 v8 : Int) (sl : List Int) (w : World) (hB : RdI .u8 w BA bn bs) (hS : RdI .i64 w SA n sl) (hbn : bn ≤ 1000000000) (hn : n ≤ 1000000000) :
    Calls Tryz.prog 31 #[.agg (taleV e sn (.slice BA bn bc) v0 v1 v2 v3 v4 v5 v6 v7 v8 (.slice SA n sc))] w (LentTalePost e sn bs bn v0 v1 v2 v3 v4 v5 v6 v7 v8 sl n w) := by
  have HB := Lib.hid hB
  have HS := Lib.hid hS
  clear hB hS
  unfold taleV
  go_enter Tryz.func31, Tryz.ntmps31
  go_wp2_with fail
  obtain ⟨wa, hwa⟩ : ∃ wa, wa = (w.alloc (Obj.cells (taleV e sn (.slice BA bn bc) v0 v1 v2 v3 v4 v5 v6 v7 v8 (.slice SA n sc)) 47)).alloc (Obj.cells (taleV 0 0 (.slice none 0 0) 0 0 0 0 0 0 0 0 0 (.slice none 0 0)) 47) := ⟨_, rfl⟩
  have K1 := Lib.hid (show Blk wa w.heap.size 47 (taleV e sn (.slice BA bn bc) v0 v1 v2 v3 v4 v5 v6 v7 v8 (.slice SA n sc)) by rw [hwa]; exact (Blk.made _ _ _).alloc _)
  have K2 := Lib.hid (show Blk wa (w.heap.size + 1) 47 (taleV 0 0 (.slice none 0 0) 0 0 0 0 0 0 0 0 0 (.slice none 0 0)) by rw [hwa]; exact Blk.made_at _ _ _ (by simp))
  have La := Lib.hid (show Below w.heap.size w wa by rw [hwa]; exact (((Below.refl _ _).alloc (Nat.le_refl _) _).alloc (by simp) _))
  unfold taleV at hwa
  rw [← hwa]
  clear hwa
  refine (lent_bytes bs BA bn bc wa (HB.out.below La.out) hbn).mono ?_
  rintro ev wb ⟨g, c, rfl, hc, ho, hb⟩
  have HO := Lib.hid (own_base8 ho La.out.size)
  have K1b := Lib.hid (K1.out.below hb K1.out.lt)
  have K2b := Lib.hid (K2.out.below hb K2.out.lt)
  have Lb := Lib.hid (below_chain La.out hb)
  clear ho hb K1 K2
  have x1 := K1b.out.cell (i := 1) rfl
  have f1 := K1b.out.free 1
  have P1 : Hid (Blk (wb.setCell ⟨w.heap.size, 1, none⟩ (.slice (some ⟨g, 0, none⟩) bn c)) w.heap.size 47 (taleV e sn (.slice (some ⟨g, 0, none⟩) bn c) v0 v1 v2 v3 v4 v5 v6 v7 v8 (.slice SA n sc))) := Lib.hid (K1b.out.put 1 _)
  have P2 := Lib.hid (K2b.out.else_ (p := ⟨w.heap.size, 1, none⟩) (by simp only; omega) (.slice (some ⟨g, 0, none⟩) bn c))
  have O1 := Lib.hid (HO.out.kept (grown_put wb ⟨w.heap.size, 1, none⟩ (.slice (some ⟨g, 0, none⟩) bn c)) (ty_apartL K1b.out HO.out (by decide)))
  have L1 := Lib.hid (below_of_grown Lb.out (grown_put wb ⟨w.heap.size, 1, none⟩ (.slice (some ⟨g, 0, none⟩) bn c)) (fun k hk => by have := Option.some.inj hk; simp only at this; omega))
  go_wp2_with (refine wpl_load_part rfl 45 (.tmp 7) rfl w.heap.size 3 rfl _ _ P1.out [.int .i64 v0, .int .i64 v1, .int .i64 v2, .int .i64 v3, .int .i64 v4, .int .i64 v5, .int .i64 v6, .int .i64 v7, .slice SA n sc, .int .i64 v8] rfl _ Tryz.underlying45 rfl infoStat ?_)
  obtain ⟨wc, hwc⟩ : ∃ wc, wc = wb.setCell ⟨w.heap.size, 1, none⟩ (.slice (some ⟨g, 0, none⟩) bn c) := ⟨_, rfl⟩
  rw [← hwc] at P1 P2 O1 L1
  rw [← hwc]
  clear hwc K1b K2b x1 f1 HO
  refine (lent_stat v0 v1 v2 v3 v4 v5 v6 v7 v8 sl SA n sc wc (HS.out.below L1.out) hn).mono ?_
  rintro ev wd ⟨g', c', rfl, hc', ho', hd⟩
  have O2 := Lib.hid (own_base8 ho' L1.out.size)
  have O1d := Lib.hid (own_lo8 O1.out hd)
  have K1d := Lib.hid (P1.out.below hd P1.out.lt)
  have K2d := Lib.hid (P2.out.below hd P2.out.lt)
  have Ld := Lib.hid (below_chain L1.out hd)
  clear ho' hd P1 P2 O1
  go_wp2_with (first
    | (refine wpl_store_part rfl 45 (.tmp 10) (.tmp 9) rfl w.heap.size 3 _ rfl rfl _ _ K1d.out 10 infoStat (show 3 + 10 ≤ 13 by omega) rfl (one_stat (S := .slice (some ⟨g', 0, none⟩) n c') rfl) ?_; intro w1 hk1 hg1 hs1; have K := Lib.hid (show Blk w1 w.heap.size 47 (taleV e sn (.slice (some ⟨g, 0, none⟩) bn c) v0 v1 v2 v3 v4 v5 v6 v7 v8 (.slice (some ⟨g', 0, none⟩) n c')) from put_tale e sn _ (.slice SA n sc) _ v0 v1 v2 v3 v4 v5 v6 v7 v8 ▸ hk1); have O3 := Lib.hid (O1d.out.kept hg1 (ty_apartL K1d.out O1d.out (by decide))); have O4 := Lib.hid (O2.out.kept hg1 (ty_apartL K1d.out O2.out (by decide))); have K3 := Lib.hid (K2d.out.grown hg1 (fun h => by have := Option.some.inj h; omega)); have L2 := Lib.hid (below_of_grown Ld.out hg1 (fun k hk => by have := Option.some.inj hk; omega)); clear hk1 hg1 hs1)
    | (refine wpl_load_blk rfl 47 (.tmp 1) rfl w.heap.size rfl _ _ K.out _ Tryz.underlying47 rfl 13 infoTale rfl ?_)
    | (refine wpl_store_blk rfl 47 (.tmp 2) (.tmp 11) rfl (w.heap.size + 1) _ rfl rfl _ _ K3.out 13 infoTale rfl rfl (one_tale (B := .slice (some ⟨g, 0, none⟩) bn c) (S := .slice (some ⟨g', 0, none⟩) n c') rfl rfl) ?_; intro w2 hk1 hg1 hs1; have K4 := Lib.hid hk1; have O5 := Lib.hid (O3.out.kept hg1 (ty_apartL K3.out O3.out (by decide))); have O6 := Lib.hid (O4.out.kept hg1 (ty_apartL K3.out O4.out (by decide))); have L3 := Lib.hid (below_of_grown L2.out hg1 (fun k hk => by have := Option.some.inj hk; omega)); clear hk1 hg1 hs1))
  refine bodyPost_ret (results_blk rfl _ (w.heap.size + 1) rfl _ _ K4.out _ Tryz.underlying47 rfl 13 infoTale rfl) rfl ?_
  exact ⟨g, c, g', c', rfl, hc, hc', O5.out, O6.out, L3.out⟩
end Go.Proofs.YtfehgpjnlkgekaaGreatDoor
