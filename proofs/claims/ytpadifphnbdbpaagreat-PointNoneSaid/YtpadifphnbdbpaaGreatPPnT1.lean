/-
  what this claim needs of: PnT1, PnT2, PnT3, PnT4 (written by cut.py).
-/
import Derived.Test.YtpadifphnbdbpaaGreatPPnN1
import Derived.Test.YtpadifphnbdbpaaGreatPStS1
namespace Go.Proofs.YtpadifphnbdbpaaGreat
open Go.RowKit Go.Maps
set_option linter.unusedVariables false
set_option linter.unusedSimpArgs false
abbrev lfV (lf : Nat) : Value := .iface 178 (.pointer (some ⟨lf, 0, none⟩))
structure TrIs (w : World) (tr lf : Nat) : Prop where
  tree : Blk w tr 124 #[lfV lf, .int .i64 0]
  leaf : Blk w lf 181 #[.slice none 0 0]
theorem TrIs.below {w w' : World} {tr lf : Nat} (h : TrIs w tr lf) (hb : Below w.heap.size w w') : TrIs w' tr lf := ⟨h.tree.below hb h.tree.lt, h.leaf.below hb h.leaf.lt⟩
theorem built_lf : Tryz.prog.built 181 [] = some #[.slice none 0 0] := by kernel_rfl
theorem built_tr (lf : Nat) : Tryz.prog.built 124 [(0, lfV lf)] = some #[lfV lf, .int .i64 0] := by kernel_rfl
theorem info_nd3 : (Tryz.prog.info? 108).map (fun i => (i.zero, i.size, i.bytes)) = some (some (.agg #[.bool false, .slice none 0 0, .slice none 0 0, .slice none 0 0]), 4, 80) := by kernel_rfl
theorem built_nd2 : Tryz.prog.built 108 [(0, .bool true), (1, .slice none 0 0)] = some ndE := by kernel_rfl
theorem tr_new (w : World) : Calls Tryz.prog 65 #[] w fun e w' => ∃ tr lf, e = .returned (.pointer (some ⟨tr, 0, none⟩)) ∧ TrIs w' tr lf ∧ w.heap.size ≤ tr ∧ w.heap.size ≤ lf ∧ Below w.heap.size w w' := by
  go_enter Tryz.func65, Tryz.ntmps65
  go_wp2_with (first
    | (refine wpl_mk rfl 124 #[(0, .tmp 3)] rfl [(0, lfV w.heap.size)] rfl _ (built_tr _) ?_)
    | (refine wpl_mk rfl 181 #[] rfl [] rfl _ built_lf ?_)
    | (refine wpl_box rfl 124 (.tmp 4) rfl _ rfl ?_; intro w2 hk hg hz; have K2 := Lib.hid hk; have L2 := Lib.hid (bl_n L1.out hg); have F2 := Lib.hid (K1.out.grown hg (by simp)); clear hk hg hz)
    | (refine wpl_box rfl 181 (.tmp 1) rfl _ rfl ?_; intro w1 hk hg hz; have K1 := Lib.hid hk; have L1 := Lib.hid (bl_n (Below.refl _ _) hg); clear hk hg hz))
  go_ret
  exact ⟨w1.heap.size, w.heap.size, rfl, ⟨K2.out, F2.out⟩, L1.out.size, Nat.le_refl _, L2.out⟩
theorem lf_neq (lf : Nat) (w : World) : (binOp BinOp.neq 116 (lfV lf) .nilIface).run Tryz.prog w = .ok (.bool true) w := by kernel_rfl
theorem lf_eql (lf : Nat) (w : World) : (binOp BinOp.eql 116 (lfV lf) .nilIface).run Tryz.prog w = .ok (.bool false) w := by kernel_rfl
set_option maxRecDepth 100000 in
theorem tr_there {w : World} {tr lf : Nat} (h : TrIs w tr lf) : Calls Tryz.prog 68 #[.pointer (some ⟨tr, 0, none⟩)] w fun e w' => e = .returned (.bool true) ∧ w = w' := by
  have c0 : w.cell? ⟨tr, 0, none⟩ = some (lfV lf) := h.tree.cell rfl
  clear h
  go_enter Tryz.func68, Tryz.ntmps68
  go_wp2_with (with_reducible refine wpl_valP (v := .bool true) (by kernel_rfl) (cmp_run (u := lfV lf) (v := .nilIface) (b := .neq) (t := 116) (x := .tmp 9) (y := .const .nilIface) (by with_reducible rfl) (by kernel_rfl) (by kernel_rfl) (by kernel_rfl) (lf_neq _ _)) ?_; simp only [Act.put, List.setIfInBounds_toArray, List.set_cons_zero, List.set_cons_succ])
  go_ret
  exact ⟨rfl, rfl⟩
theorem en_eql (w : World) : (binOp BinOp.eql 104 (.slice none 0 0) (.slice none 0 0)).run Tryz.prog w = .ok (.bool true) w := by kernel_rfl
set_option maxRecDepth 100000 in
theorem en_clone0 (w : World) : Calls Tryz.prog 93 #[.slice none 0 0] w fun e w' => e = .returned (.slice none 0 0) ∧ w = w' := by
  go_enter Tryz.func93, Tryz.ntmps93
  go_wp2_with (with_reducible refine wpl_valP (v := .bool true) (by kernel_rfl) (cmp_run (u := .slice none 0 0) (v := .slice none 0 0) (b := .eql) (t := 104) (x := .tmp 3) (y := .const (.slice none 0 0)) (by with_reducible rfl) (by kernel_rfl) (by kernel_rfl) (by kernel_rfl) (en_eql _)) ?_; simp only [Act.put, List.setIfInBounds_toArray, List.set_cons_zero, List.set_cons_succ])
  go_ret
  exact ⟨rfl, rfl⟩
theorem own_ge4 {w : World} {base : Nat} {e : TypeId} {n m c : Nat} {A : Option Addr} {xs : List Value} (h : w.ownsRow base e 4 (.slice A n c) m xs) (a : Addr) (ha : A = some a) : base ≤ a.block := by
  rcases h.2 with ⟨hx, _⟩ | ⟨g, cap, cur, hx, hb, _⟩
  · injection hx with h1; rw [ha] at h1; cases h1
  · injection hx with h1; rw [ha] at h1; injection h1 with h1; subst h1; exact hb
theorem info_nds : (Tryz.prog.info? 64).map (·.size) = some 1 := by kernel_rfl
theorem src_nd {w : World} {B c : Nat} (h : Blk w B 108 ndE) : Src w 4 (.slice (some ⟨B, 0, none⟩) 1 c) 1 ndE.toList := ⟨_, c, rfl, rfl, fun _ => ⟨B, 0, rfl, h.lt, fun j y hy => by rw [Nat.zero_add, h.cellq]; simpa using hy⟩⟩
theorem ta_leaf (lf : Nat) (w : World) : (Instr.typeAssert (lfV lf) 116 178 true).run Tryz.prog w = .ok (.tuple #[.pointer (some ⟨lf, 0, none⟩), .bool true]) w := by kernel_rfl
theorem ta_inner (lf : Nat) (w : World) : (Instr.typeAssert (lfV lf) 116 185 true).run Tryz.prog w = .ok (.tuple #[.pointer none, .bool false]) w := by kernel_rfl
theorem ta_run {o : Oper} {a : Act} {w : World} {x : Operand} {lf : Nat} (ho : o.op = .typeAssert x 116 178 true) (hx : a.eval x = lfV lf) : (execOp a.eval o).run Tryz.prog w = .ok (.value (.tuple #[.pointer (some ⟨lf, 0, none⟩), .bool true])) w := by
  unfold execOp
  simp only [ho, hx, Sem.run_bind, ta_leaf, Sem.run_pure, Result.andThen_ok]
theorem ta_runI {o : Oper} {a : Act} {w : World} {x : Operand} {lf : Nat} (ho : o.op = .typeAssert x 116 185 true) (hx : a.eval x = lfV lf) : (execOp a.eval o).run Tryz.prog w = .ok (.value (.tuple #[.pointer none, .bool false])) w := by
  unfold execOp
  simp only [ho, hx, Sem.run_bind, ta_inner, Sem.run_pure, Result.andThen_ok]
set_option maxRecDepth 100000 in
theorem tr_nodes {w : World} {lf B : Nat} (hL : Blk w lf 181 #[.slice none 0 0]) (hB : Blk w B 64 #[.slice none 0 0]) :
    Calls Tryz.prog 69 #[lfV lf, .pointer (some ⟨B, 0, none⟩)] w fun e w' => ∃ A c, e = .returned (.int .i64 0) ∧ Blk w' B 64 #[.slice A 1 c] ∧ Src w' 4 (.slice A 1 c) 1 ndE.toList ∧ (∀ a, A = some a → w.heap.size ≤ a.block) ∧ Tch [B] w w' := by
  have HB := Lib.hid hB
  have HL := Lib.hid hL
  have cl : w.cell? ⟨lf, 0, none⟩ = some (.slice none 0 0) := hL.cell rfl
  clear hL hB
  go_enter Tryz.func69, Tryz.ntmps69
  go_upto_region 14 with (first
    | (refine wpl_alloc rfl 108 (by rfl) Tryz.zeroValue108 4 (by rfl) ?_; intro w1 cs1 hk hc hg hz; have K1 := Lib.hid hk; have C1 := Lib.hid hc; have L1 := Lib.hid (bl_n (Below.refl _ _) hg); have cl1 : w1.cell? ⟨lf, 0, none⟩ = some (.slice none 0 0) := (HL.out.grown hg (by simp)).cell rfl; clear hk hc hg hz; simp only [Act.put, List.setIfInBounds_toArray, List.set_cons_zero, List.set_cons_succ])
    | (refine wpl_valP (by rfl) (ta_run (x := .tmp 10) (by with_reducible rfl) (by rfl)) ?_; simp only [Act.put, List.setIfInBounds_toArray, List.set_cons_zero, List.set_cons_succ])
    | (go_at_call 93; refine (en_clone0 _).mono ?_; rintro e w2 ⟨rfl, rfl⟩)
    | (refine wpl_mk rfl 108 #[(0, .const (.bool true)), (1, .tmp 18)] rfl [(0, .bool true), (1, .slice none 0 0)] rfl ndE built_nd2 ?_)
    | (refine wpl_over rfl 108 (.tmp 5) (.tmp 19) (by rfl) w.heap.size ndE.toList (by rfl) (by rfl) _ cs1 K1.out nd_info (by rw [C1.out]; rfl) nd_one ?_; intro w3 hb hg hz; have B3 := Lib.hid hb; have L3 := Lib.hid (bl_g L1.out hg (Nat.le_refl _)); clear hb hg hz))
  have N3 := Lib.hid (show Blk w3 w.heap.size 108 ndE from B3.out)
  have R3 := Lib.hid (show w3.rangeAt w.heap.size 0 ndE.toList from N3.out.range)
  have HB3 := Lib.hid (show Blk w3 B 64 #[.slice none 0 0] from HB.out.below L3.out HB.out.lt)
  clear K1 B3 C1 L1
  refine wp_region_qs (fun k w' => k ≤ 2 → (w'.cell? ⟨B, 0, none⟩ = some (.slice none 0 0) ∧ w'.rangeAt w.heap.size 0 ndE.toList)) [(0, some 2), (1, some 2), (2, some 2), (3, some 1), (4, some 1), (5, none), (6, none), (7, some 2), (8, none)] (by kernel_rfl) (by kernel_rfl) (by kernel_rfl) (by kernel_rfl) (by kernel_rfl) (fun _ _ _ _ _ h => h) (fun _ => ⟨HB3.out.cell rfl, R3.out⟩) ?_
  simp only [List.map_cons, List.map_nil, List.getD_cons_succ, List.getD_cons_zero]
  (repeat (first | ((first | (refine qs_row (by rfl) 108 (.tmp 5) (by with_reducible rfl) w.heap.size 0 (by rfl) ndE.toList _ (fun j w h1 h2 hS => (hS (by omega)).2) Tryz.underlying108 rfl nd_info ?_) | (refine qs_mid (v := ?_) (by rfl) ?_ ?_; rotate_left 1; (· (intro j w' hj1 hj2 hS; have hS1 := (hS (by omega)).1; clear hS; go_simp; (try (simp only [↓IntWalk.iteOmega]; go_simp)); (try simp (disch := omega) only [IntWalk.i64_in]); try with_reducible rfl)))); simp only [Act.put, List.setIfInBounds_toArray, List.set_cons_zero, List.set_cons_succ]) | (refine qs_now (v := ?_) (by rfl) ?_ ?_; rotate_left 1; (· (intro w' hS; go_simp; (try (simp only [↓IntWalk.iteOmega]; go_simp)); (try simp (disch := omega) only [IntWalk.i64_in]); try with_reducible rfl)); simp only [Act.put, List.setIfInBounds_toArray, List.set_cons_zero, List.set_cons_succ]) | (refine qs_run (v := ?_) (by rfl) ?_ ?_; rotate_left 1; (· (intro j w' hS; go_simp; (try (simp only [↓IntWalk.iteOmega]; go_simp)); (try simp (disch := omega) only [IntWalk.i64_in]); try with_reducible rfl)); simp only [Act.put, List.setIfInBounds_toArray, List.set_cons_zero, List.set_cons_succ]) | (refine qs_mid (v := ?_) (by rfl) ?_ ?_; rotate_left 1; (· (intro j w' hj1 hj2 hS; go_simp; (try (simp only [↓IntWalk.iteOmega]; go_simp)); (try simp (disch := omega) only [IntWalk.i64_in]); try with_reducible rfl)); simp only [Act.put, List.setIfInBounds_toArray, List.set_cons_zero, List.set_cons_succ]) | (refine qs_skip (by rfl) ?_; simp only [Act.put, List.setIfInBounds_toArray, List.set_cons_zero, List.set_cons_succ])))
  refine qs_act ?_
  go_wp2_with (refine wpl_lit1 rfl 64 108 (.tmp 51) (by rfl) ndE.toList (by rfl) Tryz.underlying64 info_nd3 (by rfl) (by decide) (by decide) ?_; intro w4 hb hg hz; have B4 := Lib.hid (show Blk w4 w3.heap.size 108 ndE from hb); have L4 := Lib.hid (show Below w3.heap.size w3 w4 from bl_n (Below.refl w3.heap.size w3).drew hg); clear hb hg hz)
  have X4 := Lib.hid (below_chain L3.out L4.out)
  have HB4 := Lib.hid (HB3.out.below L4.out HB3.out.lt)
  have N4 := Lib.hid (N3.out.below L4.out N3.out.lt)
  refine ⟨⟨HB4.out.cell rfl, N4.out.range⟩, ?_⟩
  (repeat (first | (refine qs_now (v := ?_) (by rfl) ?_ ?_; rotate_left 1; (· (intro w' hS; go_simp; (try (simp only [↓IntWalk.iteOmega]; go_simp)); (try simp (disch := omega) only [IntWalk.i64_in]); try with_reducible rfl)); simp only [Act.put, List.setIfInBounds_toArray, List.set_cons_zero, List.set_cons_succ]) | (refine qs_run (v := ?_) (by rfl) ?_ ?_; rotate_left 1; (· (intro j w' hS; go_simp; (try (simp only [↓IntWalk.iteOmega]; go_simp)); (try simp (disch := omega) only [IntWalk.i64_in]); try with_reducible rfl)); simp only [Act.put, List.setIfInBounds_toArray, List.set_cons_zero, List.set_cons_succ]) | (refine qs_mid (v := ?_) (by rfl) ?_ ?_; rotate_left 1; (· (intro j w' hj1 hj2 hS; go_simp; (try (simp only [↓IntWalk.iteOmega]; go_simp)); (try simp (disch := omega) only [IntWalk.i64_in]); try with_reducible rfl)); simp only [Act.put, List.setIfInBounds_toArray, List.set_cons_zero, List.set_cons_succ]) | (refine qs_skip (by rfl) ?_; simp only [Act.put, List.setIfInBounds_toArray, List.set_cons_zero, List.set_cons_succ])))
  refine qs_act ?_
  go_wp2_with (refine app_src rfl (.tmp 50) (.tmp 52) 64 (by rfl) w3.heap.size 108 _ 4 80 Tryz.underlying64 info_nd3 (by rfl) (by omega) (.slice none 0 0) 0 [] (by rfl) (World.ownsRow_nil _ _ _ _) (.slice (some ⟨w3.heap.size, 0, none⟩) 1 1) 1 ndE.toList (by rfl) (src_nd B4.out) nd_one (by omega) (by omega) (by have := L4.out.size; omega) ?_; intro v5 w5 ho hg _; have O5 := Lib.hid ho; have G5 := Lib.hid hg; clear ho hg)
  obtain ⟨A5, c5, rfl, -⟩ := own_slice O5.out
  have L5 := Lib.hid (show Below w.heap.size w w5 from bl_n X4.out G5.out)
  have HB5 := Lib.hid (show Blk w5 B 64 #[.slice none 0 0] from HB4.out.grown G5.out (by simp [Value.ownBlock]))
  have N5 := Lib.hid (show Blk w5 w.heap.size 108 ndE from N4.out.grown G5.out (by simp [Value.ownBlock]))
  refine ⟨⟨HB5.out.cell rfl, N5.out.range⟩, ?_⟩
  (repeat (first | (refine qs_now (v := ?_) (by rfl) ?_ ?_; rotate_left 1; (· (intro w' hS; go_simp; (try (simp only [↓IntWalk.iteOmega]; go_simp)); (try simp (disch := omega) only [IntWalk.i64_in]); try with_reducible rfl)); simp only [Act.put, List.setIfInBounds_toArray, List.set_cons_zero, List.set_cons_succ]) | (refine qs_run (v := ?_) (by rfl) ?_ ?_; rotate_left 1; (· (intro j w' hS; go_simp; (try (simp only [↓IntWalk.iteOmega]; go_simp)); (try simp (disch := omega) only [IntWalk.i64_in]); try with_reducible rfl)); simp only [Act.put, List.setIfInBounds_toArray, List.set_cons_zero, List.set_cons_succ]) | (refine qs_mid (v := ?_) (by rfl) ?_ ?_; rotate_left 1; (· (intro j w' hj1 hj2 hS; go_simp; (try (simp only [↓IntWalk.iteOmega]; go_simp)); (try simp (disch := omega) only [IntWalk.i64_in]); try with_reducible rfl)); simp only [Act.put, List.setIfInBounds_toArray, List.set_cons_zero, List.set_cons_succ]) | (refine qs_skip (by rfl) ?_; simp only [Act.put, List.setIfInBounds_toArray, List.set_cons_zero, List.set_cons_succ])))
  refine qs_act ?_
  go_wp2_with (refine wpl_set rfl 64 (.tmp 54) (.tmp 53) (by rfl) B 0 (.slice A5 1 c5) (by rfl) (by rfl) _ _ HB5.out info_nds (by decide) (by rfl) (by rfl) ?_; intro w6 hb hg hz; have B6 := Lib.hid (show Blk w6 B 64 #[.slice A5 1 c5] from hb); have G6 := Lib.hid hg; clear hb hg hz; simp only [Act.put, List.setIfInBounds_toArray, List.set_cons_zero, List.set_cons_succ])
  have O5' := O5.out
  have hge : ∀ a, A5 = some a → w3.heap.size ≤ a.block := own_ge4 O5'
  have O6 := Lib.hid (show w6.ownsRow w3.heap.size 108 4 (.slice A5 1 c5) 1 ndE.toList from O5'.kept G6.out (.inr (fun hh => by
    rcases O5'.2 with ⟨hx, _⟩ | ⟨g, cap, cur, hx, hb, _⟩
    · rw [hx] at hh; simp [Value.ownBlock] at hh
    · rw [hx] at hh; simp [Value.ownBlock] at hh; have := HB3.out.lt; omega)))
  have T6 := Lib.hid (show Tch [B] w w6 from (Tch.below L5.out).trans (Tch.grown (T := [B]) G6.out (fun k hk => by injection hk with hk; subst hk; exact .inl (by simp))))
  have hwb := L3.out.size
  refine ⟨fun h => absurd h (by omega), ?_⟩
  (repeat (first | (refine qs_now (v := ?_) (by rfl) ?_ ?_; rotate_left 1; (· (intro w' hS; go_simp; (try (simp only [↓IntWalk.iteOmega]; go_simp)); (try simp (disch := omega) only [IntWalk.i64_in]); try with_reducible rfl)); simp only [Act.put, List.setIfInBounds_toArray, List.set_cons_zero, List.set_cons_succ]) | (refine qs_run (v := ?_) (by rfl) ?_ ?_; rotate_left 1; (· (intro j w' hS; go_simp; (try (simp only [↓IntWalk.iteOmega]; go_simp)); (try simp (disch := omega) only [IntWalk.i64_in]); try with_reducible rfl)); simp only [Act.put, List.setIfInBounds_toArray, List.set_cons_zero, List.set_cons_succ]) | (refine qs_mid (v := ?_) (by rfl) ?_ ?_; rotate_left 1; (· (intro j w' hj1 hj2 hS; go_simp; (try (simp only [↓IntWalk.iteOmega]; go_simp)); (try simp (disch := omega) only [IntWalk.i64_in]); try with_reducible rfl)); simp only [Act.put, List.setIfInBounds_toArray, List.set_cons_zero, List.set_cons_succ]) | (refine qs_skip (by rfl) ?_; simp only [Act.put, List.setIfInBounds_toArray, List.set_cons_zero, List.set_cons_succ])))
  refine qs_nil ?_
  have cB : w6.cell? ⟨B, 0, none⟩ = some (.slice A5 1 c5) := B6.out.cell rfl
  clear cl cl1
  go_wp2_with fail
  go_ret
  exact ⟨rfl, A5, c5, B6.out, Src.of_own O6.out, fun a ha => Nat.le_trans hwb (hge a ha), T6.out⟩
theorem tr_nodesAll {w : World} {tr lf : Nat} (h : TrIs w tr lf) : Calls Tryz.prog 29 #[.pointer (some ⟨tr, 0, none⟩)] w fun e w' => ∃ A c, e = .returned (.tuple #[.slice A 1 c, .int .i64 0]) ∧ Src w' 4 (.slice A 1 c) 1 ndE.toList ∧ (∀ a, A = some a → w.heap.size ≤ a.block) ∧ Below w.heap.size w w' := by
  have H := Lib.hid h
  have c0 : w.cell? ⟨tr, 0, none⟩ = some (lfV lf) := h.tree.cell rfl
  clear h
  go_enter Tryz.func29, Tryz.ntmps29
  go_wp2_with (first
    | (go_at_call 68; refine (tr_there H.out).mono ?_; rintro e w1 ⟨rfl, rfl⟩)
    | (refine wpl_alloc_zero rfl 64 (by rfl) (z := .slice none 0 0) Tryz.zeroValue64 ?_; intro w1 hk hg hz; have B1 := Lib.hid (show Blk w1 w.heap.size 64 #[.slice none 0 0] from hk); have L1 := Lib.hid (bl_n (Below.refl _ w) hg); have H1 := Lib.hid (H.out.below L1.out); have c1 : w1.cell? ⟨tr, 0, none⟩ = some (lfV lf) := H1.out.tree.cell rfl; clear hk hg hz; simp only [Act.put, List.setIfInBounds_toArray, List.set_cons_zero, List.set_cons_succ])
    | (go_at_call 69; refine (tr_nodes H1.out.leaf B1.out).mono ?_; rintro e w2 ⟨A, c, rfl, hb, hs, hge, hT⟩; have B2 := Lib.hid hb; have S2 := Lib.hid hs; have E2 := Lib.hid hge; have cB : w2.cell? ⟨w.heap.size, 0, none⟩ = some (.slice A 1 c) := hb.cell rfl; have T2 := Lib.hid hT; clear hb hs hge hT))
  go_ret2
  exact ⟨A, c, rfl, S2.out, fun a ha => Nat.le_trans L1.out.size (E2.out a ha), ((Tch.below (T := []) L1.out).fresh T2.out (fun i hi => by simp at hi; subst hi; exact .inr (Nat.le_refl _))).nil⟩
end Go.Proofs.YtpadifphnbdbpaaGreat
namespace Go.Proofs.YtpadifphnbdbpaaGreat
open Go.RowKit Go.Maps
set_option linter.unusedVariables false
set_option linter.unusedSimpArgs false
def tkZ : List Value := List.replicate 40 (.int .u8 0)
def enZ : List Value := List.replicate 80 (.int .u8 0)
theorem tk_info : (Tryz.prog.info? 127).map (·.size) = some tkZ.length := by show _ = some 40; kernel_rfl
theorem en_info : (Tryz.prog.info? 130).map (·.size) = some enZ.length := by show _ = some 80; kernel_rfl
theorem en_one : ∀ v ∈ enZ, v.oneCell' = true := by intro v hv; rw [List.eq_of_mem_replicate hv]; rfl
theorem built_en : Tryz.prog.built 130 [] = some enZ.toArray := by kernel_rfl
theorem built_tk : Tryz.prog.built 127 [] = some tkZ.toArray := by kernel_rfl
set_option maxRecDepth 100000 in
theorem bs_nil (w : World) : Calls Tryz.prog 166 #[.slice none 0 0, .agg tkZ.toArray, .func (.func 167) #[] #[]] w fun e w' => e = .returned (.tuple #[.int .i64 0, .bool false]) ∧ Below w.heap.size w w' := by
  go_enter Tryz.func166, Tryz.ntmps166
  go_wp2_with (refine wpl_box rfl 127 (.tmp 1) rfl _ rfl ?_; intro w1 hk hg hz; have L1 := Lib.hid (bl_n (Below.refl _ w) hg); clear hk hg hz)
  go_loopg [9, 10] 0 (fun (k : Nat) iv jv wk => iv = .int .i64 0 ∧ jv = .int .i64 0 ∧ wk = w1)
  · exact ⟨rfl, rfl, rfl⟩
  · obtain ⟨rfl, rfl, rfl⟩ := hrel
    go_upto_region 8 with fail
    refine wp_region_qs (fun _ w' => True) [(0, some 1), (1, some 1), (2, some 1), (3, some 1), (4, some 0), (5, some 0), (6, some 1), (7, some 1), (8, some 1), (9, some 0), (10, some 0), (11, none), (12, some 1), (13, some 1), (14, some 1), (15, some 1)] (by kernel_rfl) (by kernel_rfl) (by kernel_rfl) (by kernel_rfl) (by kernel_rfl) (fun _ _ _ _ _ h => h) trivial ?_
    simp only [List.map_cons, List.map_nil, List.getD_cons_succ, List.getD_cons_zero]
    (repeat (first | (refine qs_now (v := ?_) (by rfl) ?_ ?_; rotate_left 1; (· (intro w' hS; go_simp; (try (simp only [↓IntWalk.iteOmega]; go_simp)); (try simp (disch := omega) only [IntWalk.i64_in]); try with_reducible rfl)); simp only [Act.put, List.setIfInBounds_toArray, List.set_cons_zero, List.set_cons_succ]) | (refine qs_run (v := ?_) (by rfl) ?_ ?_; rotate_left 1; (· (intro j w' hS; go_simp; (try (simp only [↓IntWalk.iteOmega]; go_simp)); (try simp (disch := omega) only [IntWalk.i64_in]); try with_reducible rfl)); simp only [Act.put, List.setIfInBounds_toArray, List.set_cons_zero, List.set_cons_succ]) | (refine qs_mid (v := ?_) (by rfl) ?_ ?_; rotate_left 1; (· (intro j w' hj1 hj2 hS; go_simp; (try (simp only [↓IntWalk.iteOmega]; go_simp)); (try simp (disch := omega) only [IntWalk.i64_in]); try with_reducible rfl)); simp only [Act.put, List.setIfInBounds_toArray, List.set_cons_zero, List.set_cons_succ]) | (refine qs_skip (by rfl) ?_; simp only [Act.put, List.setIfInBounds_toArray, List.set_cons_zero, List.set_cons_succ])))
    refine qs_act ?_
    go_wp2_with fail
    refine ⟨trivial, ?_⟩
    (repeat (first | (refine qs_now (v := ?_) (by rfl) ?_ ?_; rotate_left 1; (· (intro w' hS; go_simp; (try (simp only [↓IntWalk.iteOmega]; go_simp)); (try simp (disch := omega) only [IntWalk.i64_in]); try with_reducible rfl)); simp only [Act.put, List.setIfInBounds_toArray, List.set_cons_zero, List.set_cons_succ]) | (refine qs_run (v := ?_) (by rfl) ?_ ?_; rotate_left 1; (· (intro j w' hS; go_simp; (try (simp only [↓IntWalk.iteOmega]; go_simp)); (try simp (disch := omega) only [IntWalk.i64_in]); try with_reducible rfl)); simp only [Act.put, List.setIfInBounds_toArray, List.set_cons_zero, List.set_cons_succ]) | (refine qs_mid (v := ?_) (by rfl) ?_ ?_; rotate_left 1; (· (intro j w' hj1 hj2 hS; go_simp; (try (simp only [↓IntWalk.iteOmega]; go_simp)); (try simp (disch := omega) only [IntWalk.i64_in]); try with_reducible rfl)); simp only [Act.put, List.setIfInBounds_toArray, List.set_cons_zero, List.set_cons_succ]) | (refine qs_skip (by rfl) ?_; simp only [Act.put, List.setIfInBounds_toArray, List.set_cons_zero, List.set_cons_succ])))
    refine qs_nil ?_
    go_wp2_with fail
    go_ret2
    exact ⟨rfl, L1.out.drew⟩
set_option maxRecDepth 100000 in
theorem lf_place {w : World} {lf : Nat} (hL : Blk w lf 181 #[.slice none 0 0]) : Calls Tryz.prog 139 #[.pointer (some ⟨lf, 0, none⟩), .agg tkZ.toArray] w fun e w' => e = .returned (.tuple #[.int .i64 0, .bool false]) ∧ Below w.heap.size w w' := by
  have HL := Lib.hid hL
  clear hL
  go_enter Tryz.func139, Tryz.ntmps139
  go_upto_region 1 with (refine wpl_box rfl 127 (.tmp 1) rfl _ rfl ?_; intro w1 hk hg hz; have K1 := Lib.hid (show Blk w1 w.heap.size 127 tkZ.toArray from hk); have L1 := Lib.hid (bl_n (Below.refl _ w) hg); have HL1 := Lib.hid (HL.out.below L1.out HL.out.lt); clear hk hg hz)
  refine wp_region_qs (fun _ w' => w'.cell? ⟨lf, 0, none⟩ = some (.slice none 0 0) ∧ w'.rangeAt w.heap.size 0 tkZ) [(0, some 1), (1, some 1), (2, some 1), (3, some 0), (4, some 0), (5, none), (6, some 1), (7, some 1), (8, some 1), (9, some 1)] (by kernel_rfl) (by kernel_rfl) (by kernel_rfl) (by kernel_rfl) (by kernel_rfl) (fun _ _ _ _ _ h => h) ⟨HL1.out.cell rfl, by have := K1.out.range; rwa [List.toList_toArray] at this⟩ ?_
  simp only [List.map_cons, List.map_nil, List.getD_cons_succ, List.getD_cons_zero]
  (repeat (first | ((first | (refine qs_row (by rfl) 127 (.tmp 3) (by with_reducible rfl) (w.heap.size) 0 (by rfl) tkZ _ (fun j w h1 h2 hS => hS.2) Tryz.underlying127 rfl tk_info ?_) | (refine qs_mid (v := ?_) (by rfl) ?_ ?_; rotate_left 1; (· (intro j w' hj1 hj2 hS; have hS1 := hS.1; clear hS; go_simp; (try (simp only [↓IntWalk.iteOmega]; go_simp)); (try simp (disch := omega) only [IntWalk.i64_in]); try with_reducible rfl)))); simp only [Act.put, List.setIfInBounds_toArray, List.set_cons_zero, List.set_cons_succ]) | (refine qs_now (v := ?_) (by rfl) ?_ ?_; rotate_left 1; (· (intro w' hS; go_simp; (try (simp only [↓IntWalk.iteOmega]; go_simp)); (try simp (disch := omega) only [IntWalk.i64_in]); try with_reducible rfl)); simp only [Act.put, List.setIfInBounds_toArray, List.set_cons_zero, List.set_cons_succ]) | (refine qs_run (v := ?_) (by rfl) ?_ ?_; rotate_left 1; (· (intro j w' hS; go_simp; (try (simp only [↓IntWalk.iteOmega]; go_simp)); (try simp (disch := omega) only [IntWalk.i64_in]); try with_reducible rfl)); simp only [Act.put, List.setIfInBounds_toArray, List.set_cons_zero, List.set_cons_succ]) | (refine qs_mid (v := ?_) (by rfl) ?_ ?_; rotate_left 1; (· (intro j w' hj1 hj2 hS; go_simp; (try (simp only [↓IntWalk.iteOmega]; go_simp)); (try simp (disch := omega) only [IntWalk.i64_in]); try with_reducible rfl)); simp only [Act.put, List.setIfInBounds_toArray, List.set_cons_zero, List.set_cons_succ]) | (refine qs_skip (by rfl) ?_; simp only [Act.put, List.setIfInBounds_toArray, List.set_cons_zero, List.set_cons_succ])))
  refine qs_act ?_
  go_wp2_with (go_at_call 166; refine (bs_nil _).mono ?_; rintro e w2 ⟨rfl, hb⟩; have L2 := Lib.hid (show Below w1.heap.size w1 w2 from below_chain (Below.refl w1.heap.size w1).drew hb); clear hb)
  have K2 := Lib.hid (K1.out.below L2.out K1.out.lt)
  have HL2 := Lib.hid (HL1.out.below L2.out HL1.out.lt)
  refine ⟨⟨HL2.out.cell rfl, by have := K2.out.range; rwa [List.toList_toArray] at this⟩, ?_⟩
  (repeat (first | (refine qs_now (v := ?_) (by rfl) ?_ ?_; rotate_left 1; (· (intro w' hS; go_simp; (try (simp only [↓IntWalk.iteOmega]; go_simp)); (try simp (disch := omega) only [IntWalk.i64_in]); try with_reducible rfl)); simp only [Act.put, List.setIfInBounds_toArray, List.set_cons_zero, List.set_cons_succ]) | (refine qs_run (v := ?_) (by rfl) ?_ ?_; rotate_left 1; (· (intro j w' hS; go_simp; (try (simp only [↓IntWalk.iteOmega]; go_simp)); (try simp (disch := omega) only [IntWalk.i64_in]); try with_reducible rfl)); simp only [Act.put, List.setIfInBounds_toArray, List.set_cons_zero, List.set_cons_succ]) | (refine qs_mid (v := ?_) (by rfl) ?_ ?_; rotate_left 1; (· (intro j w' hj1 hj2 hS; go_simp; (try (simp only [↓IntWalk.iteOmega]; go_simp)); (try simp (disch := omega) only [IntWalk.i64_in]); try with_reducible rfl)); simp only [Act.put, List.setIfInBounds_toArray, List.set_cons_zero, List.set_cons_succ]) | (refine qs_skip (by rfl) ?_; simp only [Act.put, List.setIfInBounds_toArray, List.set_cons_zero, List.set_cons_succ])))
  refine qs_nil ?_
  go_wp2_with fail
  go_ret2
  exact ⟨rfl, below_chain L1.out L2.out⟩
set_option maxRecDepth 100000 in
theorem lf_after {w : World} {lf : Nat} (hL : Blk w lf 181 #[.slice none 0 0]) : Calls Tryz.prog 134 #[lfV lf, .agg tkZ.toArray, .bool true] w fun e w' => e = .returned (.tuple #[.agg enZ.toArray, .bool false]) ∧ Below w.heap.size w w' := by
  have HL := Lib.hid hL
  clear hL
  go_enter Tryz.func134, Tryz.ntmps134
  go_wp2_with (first
    | (refine wpl_valP (by rfl) (ta_run (x := .tmp 15) (by with_reducible rfl) (by rfl)) ?_; simp only [Act.put, List.setIfInBounds_toArray, List.set_cons_zero, List.set_cons_succ])
    | (go_at_call 139; refine (lf_place HL2.out).mono ?_; rintro e w3 ⟨rfl, hb⟩; have L3 := Lib.hid (below_chain L2.out hb); have HL3 := Lib.hid (HL2.out.below hb HL2.out.lt); have B3 := Lib.hid (B2.out.below hb B2.out.lt); have c3 : w3.cell? ⟨lf, 0, none⟩ = some (.slice none 0 0) := HL3.out.cell rfl; clear hb)
    | (refine wpl_load_blk rfl 127 (.tmp 4) (by rfl) w.heap.size (by rfl) 127 _ K2.out _ Tryz.underlying127 rfl 40 tk_info rfl ?_; simp only [Act.put, List.setIfInBounds_toArray, List.set_cons_zero, List.set_cons_succ])
    | (refine wpl_alloc rfl 130 (by rfl) Tryz.zeroValue130 80 (by rfl) ?_; intro w2 cs2 hk hc hg hz; have B2 := Lib.hid hk; have C2 := Lib.hid hc; have L2 := Lib.hid (bl_n L1.out hg); have K2 := Lib.hid (K1.out.grown hg (by simp)); have HL2 := Lib.hid (HL1.out.grown hg (by simp)); clear hk hc hg hz; simp only [Act.put, List.setIfInBounds_toArray, List.set_cons_zero, List.set_cons_succ])
    | (refine wpl_box rfl 127 (.tmp 1) rfl _ rfl ?_; intro w1 hk hg hz; have K1 := Lib.hid (show Blk w1 w.heap.size 127 tkZ.toArray from hk); have L1 := Lib.hid (bl_n (Below.refl _ w) hg); have HL1 := Lib.hid (HL.out.below L1.out HL.out.lt); clear hk hg hz)
    | (refine wpl_mk rfl 130 #[] rfl [] rfl _ built_en ?_)
    | (refine wpl_over rfl 130 (.tmp 6) (.tmp 76) (by rfl) w1.heap.size enZ (by rfl) (by rfl) _ cs2 B3.out en_info (by rw [C2.out]; rfl) en_one ?_; intro w4 hb hg hz; have B4 := Lib.hid hb; have L4 := Lib.hid (bl_g L3.out hg (by have := L1.out.size; omega)); clear hb hg hz))
  (try simp only [Exit.inBlock, Exit.then])
  refine bodyPost_ret (results_blk_tmp rfl _ w1.heap.size rfl _ _ B4.out _ Tryz.underlying130 rfl 80 en_info rfl) rfl ?_
  exact ⟨rfl, L4.out⟩
set_option maxRecDepth 100000 in
theorem tr_after {w : World} {tr lf : Nat} (h : TrIs w tr lf) : Calls Tryz.prog 100 #[.pointer (some ⟨tr, 0, none⟩), .agg tkZ.toArray, .bool true] w fun e w' => e = .returned (.tuple #[.agg enZ.toArray, .bool false]) ∧ Below w.heap.size w w' := by
  have H := Lib.hid h
  clear h
  go_enter Tryz.func100, Tryz.ntmps100
  go_upto_region 3 with (first
    | (go_at_call 68; refine (tr_there H2.out).mono ?_; rintro e w2' ⟨rfl, rfl⟩)
    | (refine wpl_alloc rfl 130 (by rfl) Tryz.zeroValue130 80 (by rfl) ?_; intro w2 cs2 hk hc hg hz; have B2 := Lib.hid hk; have C2 := Lib.hid hc; have L2 := Lib.hid (bl_n L1.out hg); have K2 := Lib.hid (K1.out.grown hg (by simp)); have H2 := Lib.hid (H.out.below L2.out); clear hk hc hg hz; simp only [Act.put, List.setIfInBounds_toArray, List.set_cons_zero, List.set_cons_succ])
    | (refine wpl_box rfl 127 (.tmp 1) rfl _ rfl ?_; intro w1 hk hg hz; have K1 := Lib.hid (show Blk w1 w.heap.size 127 tkZ.toArray from hk); have L1 := Lib.hid (bl_n (Below.refl _ w) hg); clear hk hg hz))
  refine wp_region_qs (fun _ w' => w'.cell? ⟨tr, 0, none⟩ = some (lfV lf) ∧ w'.rangeAt w.heap.size 0 tkZ) [(0, some 1), (1, some 1), (2, some 1), (3, some 0), (4, some 0), (5, some 0), (6, none), (7, some 1), (8, some 1), (9, none), (10, some 2)] (by kernel_rfl) (by kernel_rfl) (by kernel_rfl) (by kernel_rfl) (by kernel_rfl) (fun _ _ _ _ _ h => h) ⟨H2.out.tree.cell rfl, by have := K2.out.range; rwa [List.toList_toArray] at this⟩ ?_
  simp only [List.map_cons, List.map_nil, List.getD_cons_succ, List.getD_cons_zero]
  (repeat (first | ((first | (refine qs_row (by rfl) 127 (.tmp 4) (by with_reducible rfl) (w.heap.size) 0 (by rfl) tkZ _ (fun j w h1 h2 hS => hS.2) Tryz.underlying127 rfl tk_info ?_) | (refine qs_mid (v := ?_) (by rfl) ?_ ?_; rotate_left 1; (· (intro j w' hj1 hj2 hS; have hS1 := hS.1; clear hS; go_simp; (try (simp only [↓IntWalk.iteOmega]; go_simp)); (try simp (disch := omega) only [IntWalk.i64_in]); try with_reducible rfl)))); simp only [Act.put, List.setIfInBounds_toArray, List.set_cons_zero, List.set_cons_succ]) | (refine qs_now (v := ?_) (by rfl) ?_ ?_; rotate_left 1; (· (intro w' hS; go_simp; (try (simp only [↓IntWalk.iteOmega]; go_simp)); (try simp (disch := omega) only [IntWalk.i64_in]); try with_reducible rfl)); simp only [Act.put, List.setIfInBounds_toArray, List.set_cons_zero, List.set_cons_succ]) | (refine qs_run (v := ?_) (by rfl) ?_ ?_; rotate_left 1; (· (intro j w' hS; go_simp; (try (simp only [↓IntWalk.iteOmega]; go_simp)); (try simp (disch := omega) only [IntWalk.i64_in]); try with_reducible rfl)); simp only [Act.put, List.setIfInBounds_toArray, List.set_cons_zero, List.set_cons_succ]) | (refine qs_mid (v := ?_) (by rfl) ?_ ?_; rotate_left 1; (· (intro j w' hj1 hj2 hS; go_simp; (try (simp only [↓IntWalk.iteOmega]; go_simp)); (try simp (disch := omega) only [IntWalk.i64_in]); try with_reducible rfl)); simp only [Act.put, List.setIfInBounds_toArray, List.set_cons_zero, List.set_cons_succ]) | (refine qs_skip (by rfl) ?_; simp only [Act.put, List.setIfInBounds_toArray, List.set_cons_zero, List.set_cons_succ])))
  refine qs_act ?_
  go_wp2_with (go_at_call 134; refine (lf_after H2.out.leaf.drew).mono ?_; rintro e w3 ⟨rfl, hb⟩; have X3 := Lib.hid (show Below w2.heap.size w2 w3 from below_chain (Below.refl w2.heap.size w2).drew hb); clear hb)
  have K3 := Lib.hid (K2.out.below X3.out K2.out.lt)
  have H3 := Lib.hid (H2.out.below X3.out)
  have B3 := Lib.hid (B2.out.below X3.out B2.out.lt)
  have L3 := Lib.hid (below_chain L2.out X3.out)
  refine ⟨⟨H3.out.tree.cell rfl, by have := K3.out.range; rwa [List.toList_toArray] at this⟩, ?_⟩
  (repeat (first | (refine qs_now (v := ?_) (by rfl) ?_ ?_; rotate_left 1; (· (intro w' hS; go_simp; (try (simp only [↓IntWalk.iteOmega]; go_simp)); (try simp (disch := omega) only [IntWalk.i64_in]); try with_reducible rfl)); simp only [Act.put, List.setIfInBounds_toArray, List.set_cons_zero, List.set_cons_succ]) | (refine qs_run (v := ?_) (by rfl) ?_ ?_; rotate_left 1; (· (intro j w' hS; go_simp; (try (simp only [↓IntWalk.iteOmega]; go_simp)); (try simp (disch := omega) only [IntWalk.i64_in]); try with_reducible rfl)); simp only [Act.put, List.setIfInBounds_toArray, List.set_cons_zero, List.set_cons_succ]) | (refine qs_mid (v := ?_) (by rfl) ?_ ?_; rotate_left 1; (· (intro j w' hj1 hj2 hS; go_simp; (try (simp only [↓IntWalk.iteOmega]; go_simp)); (try simp (disch := omega) only [IntWalk.i64_in]); try with_reducible rfl)); simp only [Act.put, List.setIfInBounds_toArray, List.set_cons_zero, List.set_cons_succ]) | (refine qs_skip (by rfl) ?_; simp only [Act.put, List.setIfInBounds_toArray, List.set_cons_zero, List.set_cons_succ])))
  refine qs_act ?_
  go_wp2_with (refine wpl_over rfl 130 (.tmp 6) (.tmp 19) (by rfl) w1.heap.size enZ (by rfl) (by rfl) _ cs2 B3.out en_info (by rw [C2.out]; rfl) en_one ?_; intro w4 hb hg hz; have B4 := Lib.hid hb; have G4 := Lib.hid hg; clear hb hg hz)
  have HL := L1.out.size
  have H0 := H.out.tree.lt
  have L4 := Lib.hid (bl_g L3.out G4.out HL)
  have H4 := Lib.hid (H.out.below L4.out)
  have K4 := Lib.hid (K3.out.grown G4.out (by have := K1.out.lt; simp; omega))
  refine ⟨⟨H4.out.tree.cell rfl, by have := K4.out.range; rwa [List.toList_toArray] at this⟩, ?_⟩
  (repeat (first | (refine qs_now (v := ?_) (by rfl) ?_ ?_; rotate_left 1; (· (intro w' hS; go_simp; (try (simp only [↓IntWalk.iteOmega]; go_simp)); (try simp (disch := omega) only [IntWalk.i64_in]); try with_reducible rfl)); simp only [Act.put, List.setIfInBounds_toArray, List.set_cons_zero, List.set_cons_succ]) | (refine qs_run (v := ?_) (by rfl) ?_ ?_; rotate_left 1; (· (intro j w' hS; go_simp; (try (simp only [↓IntWalk.iteOmega]; go_simp)); (try simp (disch := omega) only [IntWalk.i64_in]); try with_reducible rfl)); simp only [Act.put, List.setIfInBounds_toArray, List.set_cons_zero, List.set_cons_succ]) | (refine qs_mid (v := ?_) (by rfl) ?_ ?_; rotate_left 1; (· (intro j w' hj1 hj2 hS; go_simp; (try (simp only [↓IntWalk.iteOmega]; go_simp)); (try simp (disch := omega) only [IntWalk.i64_in]); try with_reducible rfl)); simp only [Act.put, List.setIfInBounds_toArray, List.set_cons_zero, List.set_cons_succ]) | (refine qs_skip (by rfl) ?_; simp only [Act.put, List.setIfInBounds_toArray, List.set_cons_zero, List.set_cons_succ])))
  refine qs_nil ?_
  go_wp2_with fail
  (try simp only [Exit.inBlock, Exit.then])
  refine bodyPost_ret (results_blk_tmp rfl _ w1.heap.size rfl _ _ B4.out _ Tryz.underlying130 rfl 80 en_info rfl) rfl ?_
  exact ⟨rfl, L4.out⟩
set_option maxRecDepth 100000 in
theorem wk_all {w : World} {tr lf : Nat} (h : TrIs w tr lf) : Calls Tryz.prog 53 #[.pointer (some ⟨tr, 0, none⟩)] w fun e w' => e = .returned (.slice none 0 0) ∧ Below w.heap.size w w' := by
  have H := Lib.hid h
  clear h
  go_enter Tryz.func53, Tryz.ntmps53
  go_wp2_with (first
    | (refine wpl_mk rfl 127 #[] rfl [] rfl _ built_tk ?_)
    | (go_at_call 100; refine (tr_after H.out).mono ?_; rintro e w1 ⟨rfl, hb⟩; have L1 := Lib.hid hb; clear hb)
    | (refine wpl_alloc rfl 130 (by rfl) Tryz.zeroValue130 80 (by rfl) ?_; intro w2 cs2 hk hc hg hz; have B2 := Lib.hid hk; have C2 := Lib.hid hc; have L2 := Lib.hid (bl_n L1.out hg); clear hk hc hg hz; simp only [Act.put, List.setIfInBounds_toArray, List.set_cons_zero, List.set_cons_succ])
    | (refine wpl_over rfl 130 (.tmp 4) (.tmp 10) (by rfl) w1.heap.size enZ (by rfl) (by rfl) _ cs2 B2.out en_info (by rw [C2.out]; rfl) en_one ?_; intro w4 hb hg hz; have L4 := Lib.hid (bl_g L2.out hg L1.out.size); clear hb hg hz))
  go_loopg [3, 5] 0 (fun (k : Nat) iv jv wk => iv = .slice none 0 0 ∧ jv = .bool false ∧ wk = w4)
  · exact ⟨rfl, rfl, rfl⟩
  · obtain ⟨rfl, rfl, rfl⟩ := hrel
    go_wp2_with fail
    go_ret
    exact ⟨rfl, L4.out⟩
end Go.Proofs.YtpadifphnbdbpaaGreat
namespace Go.Proofs.YtpadifphnbdbpaaGreat
open Go.RowKit Go.Maps
set_option linter.unusedVariables false
set_option linter.unusedSimpArgs false
theorem load_runO {x : Operand} {o : Oper} {a : Act} {w : World} (ty : TypeId) (ho : o.op = .load ty x) (b off : Nat) (hx : a.eval x = .pointer (some ⟨b, off, none⟩)) (cs : List Value) (d : TypeDesc) (hc : w.rangeAt b off cs) (hu : Tryz.prog.underlying ty = some d) (hd : d.isRow = true) (hi : (Tryz.prog.info? ty).map (·.size) = some cs.length) :
    (execOp a.eval o).run Tryz.prog w = .ok (.value (.agg cs.toArray)) w := by
  unfold execOp
  simp only [ho, hx, Instr.loadAt, Instr.sureAddr, Sem.run_bind, Sem.run_pure, Result.andThen_ok, run_loadVar_mid w b off ty cs d hc hu hd hi]
theorem load_nd {x : Operand} {o : Oper} {a : Act} {w : World} (b off : Nat) (hc : w.rangeAt b off ndE.toList) (ho : o.op = .load 108 x) (hx : a.eval x = .pointer (some ⟨b, off, none⟩)) : (execOp a.eval o).run Tryz.prog w = .ok (.value (.agg ndE)) w :=
  load_runO 108 ho b off hx ndE.toList _ hc Tryz.underlying108 rfl nd_info
theorem cf_nil (f : Value) (w : World) : Calls Tryz.prog 95 #[.slice none 0 0, f] w fun e w' => e = .returned (.bool false) ∧ w = w' := by
  have I : Calls Tryz.prog 132 #[.slice none 0 0, f] w fun e w' => e = .returned (.int .i64 (-1)) ∧ w = w' := by
    go_enter Tryz.func132, Tryz.ntmps132
    go_wp2_with fail
    go_loopg [8] 0 (fun (k : Nat) iv wk => iv = .int .i64 0 ∧ wk = w)
    · exact ⟨rfl, rfl⟩
    · obtain ⟨rfl, rfl⟩ := hrel
      go_wp2_with fail
      go_ret
      exact ⟨rfl, rfl⟩
  have H := Lib.hid I
  clear I
  go_enter Tryz.func95, Tryz.ntmps95
  go_wp2_with (go_at_call 132; refine H.out.mono ?_; rintro e w1 ⟨rfl, rfl⟩)
  go_ret
  exact ⟨rfl, rfl⟩
theorem lf_little {w : World} {lf : Nat} (hL : Blk w lf 181 #[.slice none 0 0]) : Calls Tryz.prog 94 #[.pointer (some ⟨lf, 0, none⟩)] w fun e w' => e = .returned (.bool true) ∧ w = w' := by
  have c0 : w.cell? ⟨lf, 0, none⟩ = some (.slice none 0 0) := hL.cell rfl
  clear hL
  go_enter Tryz.func94, Tryz.ntmps94
  go_wp2_with fail
  go_ret
  exact ⟨rfl, rfl⟩
theorem lf_size {w : World} {lf : Nat} (hL : Blk w lf 181 #[.slice none 0 0]) : Calls Tryz.prog 270 #[.pointer (some ⟨lf, 0, none⟩)] w fun e w' => e = .returned (.int .i64 0) ∧ w = w' := by
  have c0 : w.cell? ⟨lf, 0, none⟩ = some (.slice none 0 0) := hL.cell rfl
  clear hL
  go_enter Tryz.func270, Tryz.ntmps270
  go_wp2_with fail
  go_ret
  exact ⟨rfl, rfl⟩
abbrev ldC (b o c sb : Nat) (n : Int) : Array Value := #[.slice (some ⟨b, o, none⟩) 1 c, .slice (some ⟨sb, 0, none⟩) 1 1, .int .i64 n]
theorem info_b1 : (Tryz.prog.info? 4).map (·.size) = some 1 := by kernel_rfl
theorem info_i1 : (Tryz.prog.info? 3).map (·.size) = some 1 := by kernel_rfl
theorem range_grown {w w' : World} {g o s : Nat} {l : List Value} (h : w.rangeAt g o l) (hg : w.grownBy w' (some s)) (hne : g ≠ s) : w'.rangeAt g o l := fun j v hv => (World.cell?_of_block (a := ⟨g, o + j, none⟩) (hg.block g (block_lt_of_cell (h j v hv)) (by simpa using hne))).trans (h j v hv)
theorem set_n (b o c sb : Nat) : (ldC b o c sb 0).setIfInBounds 2 (.int .i64 1) = ldC b o c sb 1 := rfl
theorem built_lf0 : Tryz.prog.built 181 [(0, .slice none 0 0)] = some #[.slice none 0 0] := by kernel_rfl
set_option maxRecDepth 100000 in
theorem ld_part {w : World} {b o c sb xb : Nat} (hx : Blk w xb 114 (ldC b o c sb 0)) (hs : Blk w sb 4 #[.bool false]) (hr : w.rangeAt b o ndE.toList) (hb : b < w.heap.size) (h1 : b ≠ xb) (h2 : b ≠ sb) (h3 : xb ≠ sb) :
    Calls Tryz.prog 51 #[.pointer (some ⟨xb, 0, none⟩), .int .i64 0, .agg #[.pointer none, .pointer none], .bool true] w fun e w' => ∃ lf, e = .returned (.tuple #[lfV lf, .int .i64 1]) ∧ Blk w' lf 181 #[.slice none 0 0] ∧ Blk w' xb 114 (ldC b o c sb 1) ∧ Tch [xb, sb] w w' ∧ w.heap.size ≤ lf := by
  have HX := Lib.hid hx
  have HS := Lib.hid hs
  have HR := Lib.hid hr
  have HB := Lib.hid hb
  have H1 := Lib.hid h1
  have H2 := Lib.hid h2
  have H3 := Lib.hid h3
  clear hx hs hr hb h1 h2 h3
  go_enter Tryz.func51, Tryz.ntmps51
  go_wp2_with (first
    | (refine wpl_box rfl 121 (.tmp 2) rfl _ rfl ?_; intro w1 hk hg hz; have S1 := Lib.hid (show Blk w1 w.heap.size 121 #[.pointer none, .pointer none] from hk); have L1 := Lib.hid (bl_n (Below.refl _ w) hg); have HX1 := Lib.hid (HX.out.below L1.out HX.out.lt); have HS1 := Lib.hid (HS.out.below L1.out HS.out.lt); have HR1 := Lib.hid (range_below HR.out L1.out); have c0 : w1.cell? ⟨xb, 0, none⟩ = some (.slice (some ⟨b, o, none⟩) 1 c) := HX1.out.cell rfl; have c1 : w1.cell? ⟨xb, 1, none⟩ = some (.slice (some ⟨sb, 0, none⟩) 1 1) := HX1.out.cell rfl; have c2 : w1.cell? ⟨xb, 2, none⟩ = some (.int .i64 0) := HX1.out.cell rfl; have s0 : w1.cell? ⟨sb, 0, none⟩ = some (.bool false) := HS1.out.cell rfl; clear hk hg hz)
    | (with_reducible refine wpl_valP (v := .agg ndE) (by kernel_rfl) (load_nd (x := .tmp 45) b o HR1.out (by with_reducible rfl) (by kernel_rfl)) ?_; simp only [Act.put, List.setIfInBounds_toArray, List.set_cons_zero, List.set_cons_succ])
    | (go_at_call 92; refine (nd_right _).mono ?_; rintro e w2 ⟨rfl, hb⟩; have L2 := Lib.hid (below_chain L1.out hb); have S2 := Lib.hid (S1.out.below hb S1.out.lt); have HX2 := Lib.hid (HX.out.below L2.out HX.out.lt); have HS2 := Lib.hid (HS.out.below L2.out HS.out.lt); have HR2 := Lib.hid (range_below HR.out L2.out); clear c0 c1 c2 s0; have c0 : w2.cell? ⟨xb, 0, none⟩ = some (.slice (some ⟨b, o, none⟩) 1 c) := HX2.out.cell rfl; have c1 : w2.cell? ⟨xb, 1, none⟩ = some (.slice (some ⟨sb, 0, none⟩) 1 1) := HX2.out.cell rfl; have c2 : w2.cell? ⟨xb, 2, none⟩ = some (.int .i64 0) := HX2.out.cell rfl; clear hb)
    | (refine wpl_set rfl 4 (.tmp 55) (.const (.bool true)) (by rfl) sb 0 (.bool true) (by rfl) (by rfl) _ _ HS2.out info_b1 (by decide) (by rfl) (by rfl) ?_; intro w3 hb hg hz; have G3 := Lib.hid hg; have HX3 := Lib.hid (HX2.out.grown hg (by have := H3.out; simpa using this)); have S3 := Lib.hid (S2.out.grown hg (by have := HS.out.lt; simp; omega)); have HR3 := Lib.hid (range_grown HR2.out hg H2.out); clear c0 c1 c2; have c2 : w3.cell? ⟨xb, 2, none⟩ = some (.int .i64 0) := HX3.out.cell rfl; clear hb hg hz; simp only [Act.put, List.setIfInBounds_toArray, List.set_cons_zero, List.set_cons_succ])
    | (refine wpl_set rfl 3 (.tmp 62) (.tmp 60) (by rfl) xb 2 (.int .i64 1) (by rfl) (by rfl) _ _ HX3.out info_i1 (show 2 < 3 by omega) (by rfl) (by rfl) ?_; intro w4 hb hg hz; have G4 := Lib.hid hg; have HX4 := Lib.hid (show Blk w4 xb 114 (ldC b o c sb 1) from (set_n b o c sb) ▸ hb); have S4 := Lib.hid (S3.out.grown hg (by have := HX.out.lt; simp; omega)); have HR4 := Lib.hid (range_grown HR3.out hg H1.out); clear c2; have c0 : w4.cell? ⟨xb, 0, none⟩ = some (.slice (some ⟨b, o, none⟩) 1 c) := HX4.out.cell rfl; clear hb hg hz; simp only [Act.put, List.setIfInBounds_toArray, List.set_cons_zero, List.set_cons_succ])
    | (with_reducible refine wpl_valP (v := .agg ndE) (by kernel_rfl) (load_nd (x := .tmp 68) b o HR4.out (by with_reducible rfl) (by kernel_rfl)) ?_; simp only [Act.put, List.setIfInBounds_toArray, List.set_cons_zero, List.set_cons_succ])
    | (refine wpl_alloc rfl 108 (by rfl) Tryz.zeroValue108 4 (by rfl) ?_; intro w5 cs5 hk hc hg hz; have B5 := Lib.hid hk; have C5 := Lib.hid hc; have L5 := Lib.hid (bl_n (Below.refl _ w4) hg); have S5 := Lib.hid (S4.out.grown hg (by simp)); clear hk hc hg hz; simp only [Act.put, List.setIfInBounds_toArray, List.set_cons_zero, List.set_cons_succ])
    | (refine wpl_over rfl 108 (.tmp 10) (.tmp 69) (by rfl) w4.heap.size ndE.toList (by rfl) (by rfl) _ cs5 B5.out nd_info (by rw [C5.out]; rfl) nd_one ?_; intro w6 hb hg hz; have B6 := Lib.hid (show Blk w6 w4.heap.size 108 ndE from hb); have L6 := Lib.hid (bl_g L5.out hg (Nat.le_refl _)); have n0 := B6.out.cell (i := 0) rfl; have n1 := B6.out.cell (i := 1) rfl; have S6 := Lib.hid (S5.out.grown hg (by have := S4.out.lt; simp; omega)); clear hb hg hz)
    | (go_at_call 93; refine (en_clone0 _).mono ?_; rintro e w6' ⟨rfl, rfl⟩)
    | (refine wpl_mk rfl 181 #[(0, .tmp 74)] rfl [(0, .slice none 0 0)] rfl _ built_lf0 ?_)
    | (refine wpl_box rfl 181 (.tmp 75) rfl _ rfl ?_; intro w7 hk hg hz; have F7 := Lib.hid (show Blk w7 w6.heap.size 181 #[.slice none 0 0] from hk); have L7 := Lib.hid (bl_n L6.out hg); have f0 : w7.cell? ⟨w6.heap.size, 0, none⟩ = some (.slice none 0 0) := F7.out.cell rfl; clear hk hg hz n0 n1)
    | (go_at_call 94; refine (lf_little F7.out).mono ?_; rintro e w7' ⟨rfl, rfl⟩)
    | (go_at_call 95; refine (cf_nil _ _).mono ?_; rintro e w7'' ⟨rfl, rfl⟩))
  have hl7 := L7.out
  have hT : Tch [xb, sb] w w7 := ((Tch.below L2.out).trans (Tch.grown (T := [xb, sb]) G3.out (fun k hk => by injection hk with hk; subst hk; exact .inl (by simp)))).trans ((Tch.grown (T := [xb, sb]) G4.out (fun k hk => by injection hk with hk; subst hk; exact .inl (by simp))).trans (Tch.below hl7))
  go_ret2
  exact ⟨w6.heap.size, rfl, F7.out, HX4.out.below hl7 HX4.out.lt, hT, by have h1 := L2.out.size; have h2 := G3.out.size; have h3 := G4.out.size; have h4 := L6.out.size; omega⟩
end Go.Proofs.YtpadifphnbdbpaaGreat
namespace Go.Proofs.YtpadifphnbdbpaaGreat
open Go.RowKit Go.Maps
set_option linter.unusedVariables false
set_option linter.unusedSimpArgs false
set_option maxRecDepth 100000 in
theorem tr_count {w : World} {lf : Nat} (hL : Blk w lf 181 #[.slice none 0 0]) : Calls Tryz.prog 52 #[lfV lf] w fun e w' => e = .returned (.int .i64 0) ∧ w = w' := by
  have HL := Lib.hid hL
  clear hL
  go_enter Tryz.func52, Tryz.ntmps52
  go_wp2_with (first | (go_at_call 270; refine (lf_size HL.out).mono ?_; rintro e w1 ⟨rfl, rfl⟩) | (with_reducible refine wpl_valP (by kernel_rfl) (ta_runI (lf := lf) (x := .tmp 9) (by with_reducible rfl) (by kernel_rfl)) ?_; simp only [Act.put, List.setIfInBounds_toArray, List.set_cons_zero, List.set_cons_succ]))
  go_ret
  exact ⟨rfl, rfl⟩
theorem infoBool : (Tryz.prog.info? 4).map (fun i => (i.zero, i.size, i.bytes)) = some (some (.bool false), 1, 1) := by kernel_rfl
theorem mk_bools {w : World} {ops : Array Oper} {rest : List Oper} {o : Oper} {a : Act} {Q : Exit → Act → World → Prop} (hg : o.guard = none) (l c : Operand) (hop : o.op = Op.makeSlice 112 l c) (base n : Nat) (L C : Int) (hl : a.eval l = .int .i64 L) (hc : a.eval c = .int .i64 C) (hL : L = (n : Int)) (hC : C = (n : Int))
    (hn : n ≤ 35184372088832) (b4 : base ≤ w.heap.size)
    (hK : ∀ w', w'.ownsRow base 4 1 (.slice (some ⟨w.heap.size, 0, none⟩) n n) n (List.replicate n (.bool false)) → w.grownBy w' none → wpList Tryz.prog ops Q rest (a.put o.dst (.slice (some ⟨w.heap.size, 0, none⟩) n n)) w') :
    wpList Tryz.prog ops Q (o :: rest) a w := by
  obtain ⟨i0, hi, hz0, hz1, hz2⟩ := info_parts infoBool
  refine wpList_make_full w hg l c _ hop base 4 i0 _ 1 Tryz.underlying112 hi hz0 hz1 .i64 .i64 L C n hl hc hL hC (by rw [hz2]; omega) (by unfold maxLen; omega) b4 (fun w' h1 h2 => hK w' ?_ h2)
  have e : (madeCells (Value.bool false).cells (n * 1)).toList = List.replicate n (.bool false) := by rw [Nat.mul_one]; exact toList_madeCells_one _ _
  rwa [e] at h1
theorem built_sp : Tryz.prog.built 121 [] = some #[.pointer none, .pointer none] := by kernel_rfl
theorem built_ldr (A : Option Addr) (n c : Nat) (B : Option Addr) (m d : Nat) : Tryz.prog.built 114 [(0, .slice A n c), (1, .slice B m d)] = some #[.slice A n c, .slice B m d, .int .i64 0] := by kernel_rfl
set_option maxRecDepth 100000 in
theorem tr_load {w : World} {b o c : Nat} (hr : w.rangeAt b o ndE.toList) (hb : b < w.heap.size) :
    Calls Tryz.prog 23 #[.slice (some ⟨b, o, none⟩) 1 c, .int .i64 0] w fun e w' => ∃ tr lf, e = .returned (.tuple #[.pointer (some ⟨tr, 0, none⟩), .int .i64 0]) ∧ TrIs w' tr lf ∧ w.heap.size ≤ tr ∧ w.heap.size ≤ lf ∧ Below w.heap.size w w' := by
  have HR := Lib.hid hr
  have HB := Lib.hid hb
  clear hr hb
  go_enter Tryz.func23, Tryz.ntmps23
  go_wp2_with (first
    | (refine mk_bools rfl (.tmp 11) (.tmp 11) (by rfl) w.heap.size 1 1 1 (by rfl) (by rfl) (by rfl) (by rfl) (by omega) (Nat.le_refl _) (fun w1 ho hg => ?_); have L1 := Lib.hid (bl_n (Below.refl _ w) hg); have B1 := Lib.hid (show Blk w1 w.heap.size 4 #[.bool false] from own_full ho); have HR1 := Lib.hid (range_below HR.out L1.out); clear ho hg)
    | (refine wpl_mk rfl 114 #[(0, .tmp 9), (1, .tmp 12)] rfl [(0, .slice (some ⟨b, o, none⟩) 1 c), (1, .slice (some ⟨w.heap.size, 0, none⟩) 1 1)] rfl _ (built_ldr _ _ _ _ _ _) ?_)
    | (refine wpl_mk rfl 121 #[] rfl [] rfl _ built_sp ?_)
    | (refine wpl_box rfl 114 (.tmp 13) rfl _ rfl ?_; intro w2 hk hg hz; have X2 := Lib.hid (show Blk w2 w1.heap.size 114 (ldC b o c w.heap.size 0) from hk); have L2 := Lib.hid (bl_n L1.out hg); have B2 := Lib.hid (B1.out.grown hg (by simp)); have HR2 := Lib.hid (range_below HR.out L2.out); have HN := Lib.hid (show w.heap.size < w1.heap.size from B1.out.lt); have HM := Lib.hid (show w1.heap.size < w2.heap.size from X2.out.lt); clear hk hg hz)
    | (go_at_call 51; refine (ld_part X2.out B2.out HR2.out (by have := HB.out; have := HN.out; have := HM.out; omega) (by have := HB.out; have := HN.out; omega) (by have := HB.out; omega) (by have := HN.out; omega)).mono ?_; rintro e w3 ⟨lf, rfl, hf, hx, hT, hge⟩; have F3 := Lib.hid hf; have X3 := Lib.hid hx; have c2 : w3.cell? ⟨w1.heap.size, 2, none⟩ = some (.int .i64 1) := hx.cell rfl; have L3 := Lib.hid (show Below w.heap.size w w3 from ((Tch.below (T := []) L2.out).fresh hT (fun i hi => by simp at hi; have := HN.out; have := HM.out; right; omega)).nil); have G3 := Lib.hid hge; clear hf hx hT hge)
    | (with_reducible refine wpl_valP (v := .bool false) (by kernel_rfl) (cmp_run (u := lfV lf) (v := .nilIface) (b := .eql) (t := 116) (x := .tmp 22) (y := .const .nilIface) (by with_reducible rfl) (by kernel_rfl) (by kernel_rfl) (by kernel_rfl) (lf_eql _ _)) ?_; simp only [Act.put, List.setIfInBounds_toArray, List.set_cons_zero, List.set_cons_succ])
    | (go_at_call 52; refine (tr_count F3.out).mono ?_; rintro e w3' ⟨rfl, rfl⟩)
    | (refine wpl_mk rfl 124 #[(0, .tmp 33), (1, .tmp 35)] rfl [(0, lfV lf), (1, .int .i64 0)] rfl #[lfV lf, .int .i64 0] (by kernel_rfl) ?_)
    | (refine wpl_box rfl 124 (.tmp 36) rfl _ rfl ?_; intro w4 hk hg hz; have T4 := Lib.hid (show Blk w4 w3.heap.size 124 #[lfV lf, .int .i64 0] from hk); have L4 := Lib.hid (bl_n L3.out hg); have F4 := Lib.hid (F3.out.grown hg (by simp)); clear hk hg hz))
  go_ret2
  exact ⟨w3.heap.size, lf, rfl, ⟨T4.out, F4.out⟩, L3.out.size, by have := G3.out; have := L2.out.size; omega, L4.out⟩
end Go.Proofs.YtpadifphnbdbpaaGreat
