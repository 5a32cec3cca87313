/-
  what this claim needs of: QnT1, QnT3, QnP1, QnP2, QnP3, QnP5, QnS1, QnS3 (written by cut.py).
-/
import Derived.Test.YtffalfacakdhkaaGreatDoorDQnH2
import Derived.Test.YtffalfacakdhkaaGreatDoorDStM8
namespace Go.Proofs.YtffalfacakdhkaaGreatDoor
open Go.RowKit Go.Maps
set_option linter.unusedVariables false
set_option linter.unusedSimpArgs false
abbrev lfV (lf : Nat) : Value := .iface 412 (.pointer (some ⟨lf, 0, none⟩))
structure TrIs (w : World) (tr lf : Nat) : Prop where
 tree : Blk w tr 334 #[lfV lf, .int .i64 0]
 leaf : Blk w lf 415 #[.slice none 0 0]
theorem TrIs.below {w w' : World} {tr lf : Nat} (h : TrIs w tr lf) (hb : Below w.heap.size w w') : TrIs w' tr lf := ⟨h.tree.below hb h.tree.lt, h.leaf.below hb h.leaf.lt⟩
theorem built_lf : Tryz.prog.built 415 [] = some #[.slice none 0 0] := by kernel_rfl
theorem built_tr (lf : Nat) : Tryz.prog.built 334 [(0, lfV lf)] = some #[lfV lf, .int .i64 0] := by kernel_rfl
theorem info_nd3 : (Tryz.prog.info? 318).map (fun i => (i.zero, i.size, i.bytes)) = some (some (.agg #[.bool false, .slice none 0 0, .slice none 0 0, .slice none 0 0]), 4, 80) := by kernel_rfl
theorem built_nd2 : Tryz.prog.built 318 [(0, .bool true), (1, .slice none 0 0)] = some ndE := by kernel_rfl
theorem tr_new (w : World) : Calls Tryz.prog 335 #[] w fun e w' => ∃ tr lf, e = .returned (.pointer (some ⟨tr, 0, none⟩)) ∧ TrIs w' tr lf ∧ w.heap.size ≤ tr ∧ w.heap.size ≤ lf ∧ Below w.heap.size w w' := by
 go_enter Tryz.func335, Tryz.ntmps335
 go_wp2_with (first
  | (refine wpl_mk rfl 334 #[(0, .tmp 3)] rfl [(0, lfV w.heap.size)] rfl _ (built_tr _) ?_)
  | (refine wpl_mk rfl 415 #[] rfl [] rfl _ built_lf ?_)
  | (refine wpl_box rfl 334 (.tmp 4) rfl _ rfl ?_; intro w2 hk hg hz; have K2 := yH hk; have L2 := yH (bl_n L1.out hg); have F2 := yH (K1.out.grown hg (by simp)); clear hk hg hz)
  | (refine wpl_box rfl 415 (.tmp 1) rfl _ rfl ?_; intro w1 hk hg hz; have K1 := yH hk; have L1 := yH (bl_n (Below.refl _ _) hg); clear hk hg hz))
 go_ret
 exact ⟨w1.heap.size, w.heap.size, rfl, ⟨K2.out, F2.out⟩, L1.out.size, Nat.le_refl _, L2.out⟩
theorem lf_neq (lf : Nat) (w : World) : (binOp BinOp.neq 326 (lfV lf) .nilIface).run Tryz.prog w = .ok (.bool true) w := by kernel_rfl
set_option maxRecDepth 100000 in
theorem tr_there {w : World} {tr lf : Nat} (h : TrIs w tr lf) : Calls Tryz.prog 337 #[.pointer (some ⟨tr, 0, none⟩)] w fun e w' => e = .returned (.bool true) ∧ w = w' := by
 have c0 : w.cell? ⟨tr, 0, none⟩ = some (lfV lf) := h.tree.cell rfl
 clear h
 go_enter Tryz.func337, Tryz.ntmps337
 go_wp2_with (with_reducible refine wpl_valP (v := .bool true) (by kernel_rfl) (cmp_run (u := lfV lf) (v := .nilIface) (b := .neq) (t := 326) (x := .tmp 9) (y := .const .nilIface) (by with_reducible rfl) (by kernel_rfl) (by kernel_rfl) (by kernel_rfl) (lf_neq _ _)) ?_; simp only [Act.put, yA, yB, yC])
 go_ret
 exact ⟨rfl, rfl⟩
theorem en_eql (w : World) : (binOp BinOp.eql 315 (.slice none 0 0) (.slice none 0 0)).run Tryz.prog w = .ok (.bool true) w := by kernel_rfl
set_option maxRecDepth 100000 in
theorem en_clone0 (w : World) : Calls Tryz.prog 290 #[.slice none 0 0] w fun e w' => e = .returned (.slice none 0 0) ∧ w = w' := by
 go_enter Tryz.func290, Tryz.ntmps290
 go_wp2_with (with_reducible refine wpl_valP (v := .bool true) (by kernel_rfl) (cmp_run (u := .slice none 0 0) (v := .slice none 0 0) (b := .eql) (t := 315) (x := .tmp 3) (y := .const (.slice none 0 0)) (by with_reducible rfl) (by kernel_rfl) (by kernel_rfl) (by kernel_rfl) (en_eql _)) ?_; simp only [Act.put, yA, yB, yC])
 go_ret
 exact ⟨rfl, rfl⟩
theorem own_ge4 {w : World} {base : Nat} {e : TypeId} {n m c : Nat} {A : Option Addr} {xs : List Value} (h : w.ownsRow base e 4 (.slice A n c) m xs) (a : Addr) (ha : A = some a) : base ≤ a.block := by
 rcases h.2 with ⟨hx, _⟩ | ⟨g, cap, cur, hx, hb, _⟩
 ·injection hx with h1; rw [ha] at h1; cases h1
 ·injection hx with h1; rw [ha] at h1; injection h1 with h1; subst h1; exact hb
theorem info_nds : (Tryz.prog.info? 217).map (·.size) = some 1 := by kernel_rfl
theorem src_nd {w : World} {B c : Nat} (h : Blk w B 318 ndE) : Src w 4 (.slice (some ⟨B, 0, none⟩) 1 c) 1 ndE.toList := ⟨_, c, rfl, rfl, fun _ => ⟨B, 0, rfl, h.lt, fun j y hy => by rw [Nat.zero_add, h.cellq]; simpa using hy⟩⟩
theorem ta_leaf (lf : Nat) (w : World) : (Instr.typeAssert (lfV lf) 326 412 true).run Tryz.prog w = .ok (.tuple #[.pointer (some ⟨lf, 0, none⟩), .bool true]) w := by kernel_rfl
theorem ta_run {o : Oper} {a : Act} {w : World} {x : Operand} {lf : Nat} (ho : o.op = .typeAssert x 326 412 true) (hx : a.eval x = lfV lf) : (execOp a.eval o).run Tryz.prog w = .ok (.value (.tuple #[.pointer (some ⟨lf, 0, none⟩), .bool true])) w := by
 unfold execOp
 simp only [ho, hx, Sem.run_bind, ta_leaf, Sem.run_pure, Result.andThen_ok]
set_option maxRecDepth 100000 in
theorem tr_nodes {w : World} {lf B : Nat} (hL : Blk w lf 415 #[.slice none 0 0]) (hB : Blk w B 217 #[.slice none 0 0]) :
  Calls Tryz.prog 338 #[lfV lf, .pointer (some ⟨B, 0, none⟩)] w fun e w' => ∃ A c, e = .returned (.int .i64 0) ∧ Blk w' B 217 #[.slice A 1 c] ∧ Src w' 4 (.slice A 1 c) 1 ndE.toList ∧ (∀ a, A = some a → w.heap.size ≤ a.block) ∧ Tch [B] w w' := by
 have HB := yH hB
 have HL := yH hL
 have cl : w.cell? ⟨lf, 0, none⟩ = some (.slice none 0 0) := hL.cell rfl
 clear hL hB
 go_enter Tryz.func338, Tryz.ntmps338
 go_upto_region 14 with (first
  | (refine wpl_alloc rfl 318 (by rfl) Tryz.zeroValue318 4 (by rfl) ?_; intro w1 cs1 hk hc hg hz; have K1 := yH hk; have C1 := yH hc; have L1 := yH (bl_n (Below.refl _ _) hg); have cl1 : w1.cell? ⟨lf, 0, none⟩ = some (.slice none 0 0) := (HL.out.grown hg (by simp)).cell rfl; clear hk hc hg hz; simp only [Act.put, yA, yB, yC])
  | (refine wpl_valP (by rfl) (ta_run (x := .tmp 10) (by with_reducible rfl) (by rfl)) ?_; simp only [Act.put, yA, yB, yC])
  | (go_at_call 290; refine (en_clone0 _).mono ?_; rintro e w2 ⟨rfl, rfl⟩)
  | (refine wpl_mk rfl 318 #[(0, .const (.bool true)), (1, .tmp 18)] rfl [(0, .bool true), (1, .slice none 0 0)] rfl ndE built_nd2 ?_)
  | (refine wpl_over rfl 318 (.tmp 5) (.tmp 19) (by rfl) w.heap.size ndE.toList (by rfl) (by rfl) _ cs1 K1.out nd_info (by rw [C1.out]; rfl) nd_one ?_; intro w3 hb hg hz; have B3 := yH hb; have L3 := yH (bl_g L1.out hg (Nat.le_refl _)); clear hb hg hz))
 have N3 := yH (show Blk w3 w.heap.size 318 ndE from B3.out)
 have R3 := yH (show w3.rangeAt w.heap.size 0 ndE.toList from N3.out.range)
 have HB3 := yH (show Blk w3 B 217 #[.slice none 0 0] from HB.out.below L3.out HB.out.lt)
 clear K1 B3 C1 L1
 refine wp_region_qs (fun k w' => k ≤ 2 → (w'.cell? ⟨B, 0, none⟩ = some (.slice none 0 0) ∧ w'.rangeAt w.heap.size 0 ndE.toList)) [(0, some 2), (1, some 2), (2, some 2), (3, some 1), (4, some 1), (5, none), (6, none), (7, some 2), (8, none)] (by kernel_rfl) (by kernel_rfl) (by kernel_rfl) (by kernel_rfl) (by kernel_rfl) (fun _ _ _ _ _ h => h) (fun _ => ⟨HB3.out.cell rfl, R3.out⟩) ?_
 simp only [yD, yE, yF, yG]
 (repeat (first | ((first | (refine qs_row (by rfl) 318 (.tmp 5) (by with_reducible rfl) w.heap.size 0 (by rfl) ndE.toList _ (fun j w h1 h2 hS => (hS (by omega)).2) Tryz.underlying318 rfl nd_info ?_) | (refine qs_mid (v := ?_) (by rfl) ?_ ?_; rotate_left 1; (· (intro j w' hj1 hj2 hS; have hS1 := (hS (by omega)).1; clear hS; go_simp; (try (simp only [↓IntWalk.iteOmega]; go_simp)); (try simp (disch := omega) only [IntWalk.i64_in]); try with_reducible rfl)))); simp only [Act.put, yA, yB, yC]) | (refine qs_now (v := ?_) (by rfl) ?_ ?_; rotate_left 1; (· (intro w' hS; go_simp; (try (simp only [↓IntWalk.iteOmega]; go_simp)); (try simp (disch := omega) only [IntWalk.i64_in]); try with_reducible rfl)); simp only [Act.put, yA, yB, yC]) | (refine qs_run (v := ?_) (by rfl) ?_ ?_; rotate_left 1; (· (intro j w' hS; go_simp; (try (simp only [↓IntWalk.iteOmega]; go_simp)); (try simp (disch := omega) only [IntWalk.i64_in]); try with_reducible rfl)); simp only [Act.put, yA, yB, yC]) | (refine qs_mid (v := ?_) (by rfl) ?_ ?_; rotate_left 1; (· (intro j w' hj1 hj2 hS; go_simp; (try (simp only [↓IntWalk.iteOmega]; go_simp)); (try simp (disch := omega) only [IntWalk.i64_in]); try with_reducible rfl)); simp only [Act.put, yA, yB, yC]) | (refine qs_skip (by rfl) ?_; simp only [Act.put, yA, yB, yC])))
 refine qs_act ?_
 go_wp2_with (refine wpl_lit1 rfl 217 318 (.tmp 51) (by rfl) ndE.toList (by rfl) Tryz.underlying217 info_nd3 (by rfl) (by decide) (by decide) ?_; intro w4 hb hg hz; have B4 := yH (show Blk w4 w3.heap.size 318 ndE from hb); have L4 := yH (show Below w3.heap.size w3 w4 from bl_n (Below.refl w3.heap.size w3).drew hg); clear hb hg hz)
 have X4 := yH (below_chain L3.out L4.out)
 have HB4 := yH (HB3.out.below L4.out HB3.out.lt)
 have N4 := yH (N3.out.below L4.out N3.out.lt)
 refine ⟨⟨HB4.out.cell rfl, N4.out.range⟩, ?_⟩
 (repeat (first | (refine qs_now (v := ?_) (by rfl) ?_ ?_; rotate_left 1; (· (intro w' hS; go_simp; (try (simp only [↓IntWalk.iteOmega]; go_simp)); (try simp (disch := omega) only [IntWalk.i64_in]); try with_reducible rfl)); simp only [Act.put, yA, yB, yC]) | (refine qs_run (v := ?_) (by rfl) ?_ ?_; rotate_left 1; (· (intro j w' hS; go_simp; (try (simp only [↓IntWalk.iteOmega]; go_simp)); (try simp (disch := omega) only [IntWalk.i64_in]); try with_reducible rfl)); simp only [Act.put, yA, yB, yC]) | (refine qs_mid (v := ?_) (by rfl) ?_ ?_; rotate_left 1; (· (intro j w' hj1 hj2 hS; go_simp; (try (simp only [↓IntWalk.iteOmega]; go_simp)); (try simp (disch := omega) only [IntWalk.i64_in]); try with_reducible rfl)); simp only [Act.put, yA, yB, yC]) | (refine qs_skip (by rfl) ?_; simp only [Act.put, yA, yB, yC])))
 refine qs_act ?_
 go_wp2_with (refine app_src rfl (.tmp 50) (.tmp 52) 217 (by rfl) w3.heap.size 318 _ 4 80 Tryz.underlying217 info_nd3 (by rfl) (by omega) (.slice none 0 0) 0 [] (by rfl) (World.ownsRow_nil _ _ _ _) (.slice (some ⟨w3.heap.size, 0, none⟩) 1 1) 1 ndE.toList (by rfl) (src_nd B4.out) nd_one (by omega) (by omega) (by have := L4.out.size; omega) ?_; intro v5 w5 ho hg _; have O5 := yH ho; have G5 := yH hg; clear ho hg)
 obtain ⟨A5, c5, rfl, -⟩ := own_slice O5.out
 have L5 := yH (show Below w.heap.size w w5 from bl_n X4.out G5.out)
 have HB5 := yH (show Blk w5 B 217 #[.slice none 0 0] from HB4.out.grown G5.out (by simp [Value.ownBlock]))
 have N5 := yH (show Blk w5 w.heap.size 318 ndE from N4.out.grown G5.out (by simp [Value.ownBlock]))
 refine ⟨⟨HB5.out.cell rfl, N5.out.range⟩, ?_⟩
 (repeat (first | (refine qs_now (v := ?_) (by rfl) ?_ ?_; rotate_left 1; (· (intro w' hS; go_simp; (try (simp only [↓IntWalk.iteOmega]; go_simp)); (try simp (disch := omega) only [IntWalk.i64_in]); try with_reducible rfl)); simp only [Act.put, yA, yB, yC]) | (refine qs_run (v := ?_) (by rfl) ?_ ?_; rotate_left 1; (· (intro j w' hS; go_simp; (try (simp only [↓IntWalk.iteOmega]; go_simp)); (try simp (disch := omega) only [IntWalk.i64_in]); try with_reducible rfl)); simp only [Act.put, yA, yB, yC]) | (refine qs_mid (v := ?_) (by rfl) ?_ ?_; rotate_left 1; (· (intro j w' hj1 hj2 hS; go_simp; (try (simp only [↓IntWalk.iteOmega]; go_simp)); (try simp (disch := omega) only [IntWalk.i64_in]); try with_reducible rfl)); simp only [Act.put, yA, yB, yC]) | (refine qs_skip (by rfl) ?_; simp only [Act.put, yA, yB, yC])))
 refine qs_act ?_
 go_wp2_with (refine wpl_set rfl 217 (.tmp 54) (.tmp 53) (by rfl) B 0 (.slice A5 1 c5) (by rfl) (by rfl) _ _ HB5.out info_nds (by decide) (by rfl) (by rfl) ?_; intro w6 hb hg hz; have B6 := yH (show Blk w6 B 217 #[.slice A5 1 c5] from hb); have G6 := yH hg; clear hb hg hz; simp only [Act.put, yA, yB, yC])
 have O5' := O5.out
 have hge : ∀ a, A5 = some a → w3.heap.size ≤ a.block := own_ge4 O5'
 have O6 := yH (show w6.ownsRow w3.heap.size 318 4 (.slice A5 1 c5) 1 ndE.toList from O5'.kept G6.out (.inr (fun hh => by
  rcases O5'.2 with ⟨hx, _⟩ | ⟨g, cap, cur, hx, hb, _⟩
  ·rw [hx] at hh; simp [Value.ownBlock] at hh
  ·rw [hx] at hh; simp [Value.ownBlock] at hh; have := HB3.out.lt; omega)))
 have T6 := yH (show Tch [B] w w6 from (Tch.below L5.out).trans (Tch.grown (T := [B]) G6.out (fun k hk => by injection hk with hk; subst hk; exact .inl (by simp))))
 have hwb := L3.out.size
 refine ⟨fun h => absurd h (by omega), ?_⟩
 (repeat (first | (refine qs_now (v := ?_) (by rfl) ?_ ?_; rotate_left 1; (· (intro w' hS; go_simp; (try (simp only [↓IntWalk.iteOmega]; go_simp)); (try simp (disch := omega) only [IntWalk.i64_in]); try with_reducible rfl)); simp only [Act.put, yA, yB, yC]) | (refine qs_run (v := ?_) (by rfl) ?_ ?_; rotate_left 1; (· (intro j w' hS; go_simp; (try (simp only [↓IntWalk.iteOmega]; go_simp)); (try simp (disch := omega) only [IntWalk.i64_in]); try with_reducible rfl)); simp only [Act.put, yA, yB, yC]) | (refine qs_mid (v := ?_) (by rfl) ?_ ?_; rotate_left 1; (· (intro j w' hj1 hj2 hS; go_simp; (try (simp only [↓IntWalk.iteOmega]; go_simp)); (try simp (disch := omega) only [IntWalk.i64_in]); try with_reducible rfl)); simp only [Act.put, yA, yB, yC]) | (refine qs_skip (by rfl) ?_; simp only [Act.put, yA, yB, yC])))
 refine qs_nil ?_
 have cB : w6.cell? ⟨B, 0, none⟩ = some (.slice A5 1 c5) := B6.out.cell rfl
 clear cl cl1
 go_wp2_with fail
 go_ret
 exact ⟨rfl, A5, c5, B6.out, Src.of_own O6.out, fun a ha => Nat.le_trans hwb (hge a ha), T6.out⟩
theorem tr_nodesAll {w : World} {tr lf : Nat} (h : TrIs w tr lf) : Calls Tryz.prog 276 #[.pointer (some ⟨tr, 0, none⟩)] w fun e w' => ∃ A c, e = .returned (.tuple #[.slice A 1 c, .int .i64 0]) ∧ Src w' 4 (.slice A 1 c) 1 ndE.toList ∧ (∀ a, A = some a → w.heap.size ≤ a.block) ∧ Below w.heap.size w w' := by
 have H := yH h
 have c0 : w.cell? ⟨tr, 0, none⟩ = some (lfV lf) := h.tree.cell rfl
 clear h
 go_enter Tryz.func276, Tryz.ntmps276
 go_wp2_with (first
  | (go_at_call 337; refine (tr_there H.out).mono ?_; rintro e w1 ⟨rfl, rfl⟩)
  | (refine wpl_alloc_zero rfl 217 (by rfl) (z := .slice none 0 0) Tryz.zeroValue217 ?_; intro w1 hk hg hz; have B1 := yH (show Blk w1 w.heap.size 217 #[.slice none 0 0] from hk); have L1 := yH (bl_n (Below.refl _ w) hg); have H1 := yH (H.out.below L1.out); have c1 : w1.cell? ⟨tr, 0, none⟩ = some (lfV lf) := H1.out.tree.cell rfl; clear hk hg hz; simp only [Act.put, yA, yB, yC])
  | (go_at_call 338; refine (tr_nodes H1.out.leaf B1.out).mono ?_; rintro e w2 ⟨A, c, rfl, hb, hs, hge, hT⟩; have B2 := yH hb; have S2 := yH hs; have E2 := yH hge; have cB : w2.cell? ⟨w.heap.size, 0, none⟩ = some (.slice A 1 c) := hb.cell rfl; have T2 := yH hT; clear hb hs hge hT))
 go_ret2
 exact ⟨A, c, rfl, S2.out, fun a ha => Nat.le_trans L1.out.size (E2.out a ha), ((Tch.below (T := []) L1.out).fresh T2.out (fun i hi => by simp at hi; subst hi; exact .inr (Nat.le_refl _))).nil⟩
end Go.Proofs.YtffalfacakdhkaaGreatDoor
namespace Go.Proofs.YtffalfacakdhkaaGreatDoor
open Go.RowKit Go.Maps
set_option linter.unusedVariables false
set_option linter.unusedSimpArgs false
theorem load_runO {x : Operand} {o : Oper} {a : Act} {w : World} (ty : TypeId) (ho : o.op = .load ty x) (b off : Nat) (hx : a.eval x = .pointer (some ⟨b, off, none⟩)) (cs : List Value) (d : TypeDesc) (hc : w.rangeAt b off cs) (hu : Tryz.prog.underlying ty = some d) (hd : d.isRow = true) (hi : (Tryz.prog.info? ty).map (·.size) = some cs.length) :
  (execOp a.eval o).run Tryz.prog w = .ok (.value (.agg cs.toArray)) w := by
 unfold execOp
 simp only [ho, hx, Instr.loadAt, Instr.sureAddr, Sem.run_bind, Sem.run_pure, Result.andThen_ok, run_loadVar_mid w b off ty cs d hc hu hd hi]
theorem load_nd {x : Operand} {o : Oper} {a : Act} {w : World} (b off : Nat) (hc : w.rangeAt b off ndE.toList) (ho : o.op = .load 318 x) (hx : a.eval x = .pointer (some ⟨b, off, none⟩)) : (execOp a.eval o).run Tryz.prog w = .ok (.value (.agg ndE)) w :=
 load_runO 318 ho b off hx ndE.toList _ hc Tryz.underlying318 rfl nd_info
theorem info_i1 : (Tryz.prog.info? 3).map (·.size) = some 1 := by kernel_rfl
theorem range_grown {w w' : World} {g o s : Nat} {l : List Value} (h : w.rangeAt g o l) (hg : w.grownBy w' (some s)) (hne : g ≠ s) : w'.rangeAt g o l := fun j v hv => (World.cell?_of_block (a := ⟨g, o + j, none⟩) (hg.block g (block_lt_of_cell (h j v hv)) (by simpa using hne))).trans (h j v hv)
end Go.Proofs.YtffalfacakdhkaaGreatDoor
namespace Go.Proofs.YtffalfacakdhkaaGreatDoor
open Go.RowKit Go.Maps Go.Sort Go.Shelf
set_option linter.unusedVariables false
set_option linter.unusedSimpArgs false
theorem pst_check {w : World} {si xi bx mi bs n : Nat} {E : ExM} {f : MpF} {M : SnM} (h : StIs w si xi bx mi bs n E f M) (hE : E.length ≤ 100000000) (hM : IdsOk M) (h0 : stItems n E f M = []) :
  Calls Tryz.prog 152 #[.pointer (some ⟨si, 0, none⟩)] w fun e w' => e = .returned (.int .i64 0) ∧ Below w.heap.size w w' := by
 have H := yH h
 have HE := yH hE
 have HM := yH hM
 have H0 := yH h0
 have c0 := h.c0
 clear h hE hM h0
 go_enter Tryz.func152, Tryz.ntmps152
 go_wp2_with (go_at_call 181; refine (st_there H.out).mono ?_; rintro e w1 ⟨rfl, rfl⟩)
 refine wp_region_qs (fun _ w' => w'.cell? ⟨si, 0, none⟩ = some (.int .i64 (n : Int))) [(0, some 2), (1, some 2), (2, some 2), (3, some 1), (4, some 1), (5, none), (6, none), (7, some 2), (8, some 2)] (by kernel_rfl) (by kernel_rfl) (by kernel_rfl) (by kernel_rfl) (by kernel_rfl) (fun _ _ _ _ _ h => h) c0 ?_
 simp only [yD, yE, yF, yG]
 (repeat (first | (refine qs_mid (v := ?_) (by rfl) ?_ ?_; rotate_left 1; (· (intro j w' hj1 hj2 hS; go_simp; (try (simp only [↓IntWalk.iteOmega]; go_simp)); (try simp (disch := omega) only [IntWalk.i64_in]); try with_reducible rfl)); simp only [Act.put, yA, yB, yC]) | (refine qs_skip (by rfl) ?_; simp only [Act.put, yA, yB, yC])))
 refine qs_act ?_
 go_wp2_with (go_at_call 228; refine (st_items H.out.drew HE.out HM.out).mono ?_; rintro e w2 ⟨v, rfl, ho, hb⟩; rw [H0.out] at ho; obtain ⟨A2, c2, rfl, -⟩ := Src.of_own ho; have L2 := yH (below_chain (Below.refl _ _).drew hb); clear ho hb)
 have H2 := yH (H.out.below L2.out)
 refine ⟨H2.out.c0, ?_⟩
 (repeat (first | (refine qs_mid (v := ?_) (by rfl) ?_ ?_; rotate_left 1; (· (intro j w' hj1 hj2 hS; go_simp; (try (simp only [↓IntWalk.iteOmega]; go_simp)); (try simp (disch := omega) only [IntWalk.i64_in]); try with_reducible rfl)); simp only [Act.put, yA, yB, yC]) | (refine qs_skip (by rfl) ?_; simp only [Act.put, yA, yB, yC])))
 refine qs_act ?_
 go_wp2_with (go_at_call 219; refine (makes_nil (n : Int) A2 c2).mono ?_; rintro e w3 ⟨rfl, hb⟩; have L3 := yH hb; clear hb)
 have H3 := yH (H2.out.below L3.out)
 refine ⟨H3.out.c0, ?_⟩
 (repeat (first | (refine qs_mid (v := ?_) (by rfl) ?_ ?_; rotate_left 1; (· (intro j w' hj1 hj2 hS; go_simp; (try (simp only [↓IntWalk.iteOmega]; go_simp)); (try simp (disch := omega) only [IntWalk.i64_in]); try with_reducible rfl)); simp only [Act.put, yA, yB, yC]) | (refine qs_skip (by rfl) ?_; simp only [Act.put, yA, yB, yC])))
 refine qs_nil ?_
 go_wp2_with fail
 go_ret
 exact ⟨rfl, below_chain L2.out L3.out⟩
theorem stItems_nil (n : Nat) : stItems n [] zF [] = [] := by
 have h1 : xItems [] = [] := List.eq_nil_of_length_eq_zero (by rw [xItems_len]; rfl)
 have h2 : sIds ([] : SnM) = [] := List.eq_nil_of_length_eq_zero (by rw [sIds_len]; rfl)
 have h3 : slIs n (gAt zF [] 0) 0 = [] := by
  unfold slIs
  rw [List.flatMap_eq_nil_iff]
  intro u hu
  rfl
 unfold stItems mItems mSl
 rw [h1, h2]
 simp [h3]
theorem pt_made {w : World} {si xi bx mi bs n : Nat} (h : StIs w si xi bx mi bs n [] zF []) : Calls Tryz.prog 275 #[.pointer (some ⟨si, 0, none⟩)] w fun e w' => ∃ tr lf, e = .returned (.pointer (some ⟨tr, 0, none⟩)) ∧ TrIs w' tr lf ∧ Below w.heap.size w w' := by
 have H := yH h
 clear h
 go_enter Tryz.func275, Tryz.ntmps275
 go_wp2_with (first
  | (go_at_call 335; refine (tr_new _).mono ?_; rintro e w1 ⟨tr, lf, rfl, ht, _, _, hb⟩; have T1 := yH ht; have L1 := yH hb; clear ht hb)
  | (go_at_call 228; refine (st_items (H.out.below L1.out) (by simp) ⟨by simp, by simp⟩).mono ?_; rintro e w2 ⟨v, rfl, ho, hb⟩; rw [stItems_nil] at ho; obtain ⟨A2, c2, rfl, -⟩ := Src.of_own ho; have L2 := yH (below_chain L1.out hb); have T2 := yH (T1.out.below hb); clear ho hb))
 go_loopg [12] 0 (fun (k : Nat) iv wk => iv = .int .i64 0 ∧ wk = w2)
 ·exact ⟨rfl, rfl⟩
 ·obtain ⟨rfl, rfl⟩ := hrel
  go_wp2_with fail
  go_ret
  exact ⟨tr, lf, rfl, T2.out, L2.out⟩
end Go.Proofs.YtffalfacakdhkaaGreatDoor
namespace Go.Proofs.YtffalfacakdhkaaGreatDoor
open Go.RowKit Go.Maps
set_option linter.unusedVariables false
set_option linter.unusedSimpArgs false
def PgL (w : World) (k : Nat) (rv iv : Value) (wk : World) : Prop := (k = 1 ∧ iv = .int .i64 0 ∧ rv = .slice none 0 0 ∧ wk = w) ∨ (k = 0 ∧ iv = .int .i64 1 ∧ ∃ A c, rv = .slice A 1024 c ∧ wk.ownsRow w.heap.size 5 1 rv 1024 (bV ndRow) ∧ Below w.heap.size w wk)
set_option maxRecDepth 100000 in
theorem pt_pages {w : World} {b o c : Nat} (hr : w.rangeAt b o ndE.toList) (hb : b < w.heap.size) : Calls Tryz.prog 280 #[.slice (some ⟨b, o, none⟩) 1 c] w fun e w' => ∃ A c', e = .returned (.slice A 1024 c') ∧ w'.ownsRow w.heap.size 5 1 (.slice A 1024 c') 1024 (bV ndRow) ∧ Below w.heap.size w w' := by
 have HR := yH hr
 have HB := yH hb
 clear hr hb
 go_enter Tryz.func280, Tryz.ntmps280
 go_wp2_with fail
 go_loopg [3, 10] 1 (fun k rv iv wk => PgL w k rv iv wk)
 case atStart => exact .inl ⟨rfl, rfl, rfl, rfl⟩
 case round =>
  rcases hrel with ⟨hk, rfl, rfl, hw⟩ | ⟨hk, rfl, A, c', rfl, ho, hl⟩
  ·have HK := yH hk
   obtain rfl := hw.symm
   clear hk
   go_wp2_with (first
    | (with_reducible refine wpl_valP (v := .agg ndE) (by kernel_rfl) (load_nd (x := .tmp 12) b o HR.out (by with_reducible rfl) (by kernel_rfl)) ?_; simp only [Act.put, yA, yB, yC])
    | (refine wpl_alloc rfl 318 (by rfl) Tryz.zeroValue318 4 (by rfl) ?_; intro w1 cs1 hk hc hg hz; have B1 := yH hk; have C1 := yH hc; have L1 := yH (bl_n (Below.refl _ w) hg); clear hk hc hg hz; simp only [Act.put, yA, yB, yC])
    | (refine wpl_over rfl 318 (.tmp 5) (.tmp 13) (by rfl) w.heap.size ndE.toList (by rfl) (by rfl) _ cs1 B1.out nd_info (by rw [C1.out]; rfl) nd_one ?_; intro w2 hb hg hz; have B2 := yH (show Blk w2 w.heap.size 318 ndE from hb); have L2 := yH (bl_g L1.out hg (Nat.le_refl _)); clear hb hg hz)
    | (refine wpl_load_blk rfl 318 (.tmp 5) (by rfl) w.heap.size (by rfl) 318 _ B2.out _ Tryz.underlying318 rfl 4 info_nd rfl ?_; simp only [Act.put, yA, yB, yC])
    | (go_at_call 287; refine (nd_put _).mono ?_; rintro e w4 ⟨r, rfl, hb, hge, hl⟩; have R4 := yH hb; have L4 := yH (below_chain L2.out hl); clear hb hge hl)
    | (refine app_src rfl (.tmp 19) (.tmp 20) 25 (by rfl) w.heap.size 5 _ 1 1 Tryz.underlying25 infoByte (by rfl) (by omega) (.slice none 0 0) 0 [] (by rfl) (World.ownsRow_nil _ _ _ _) (.slice (some ⟨r, 0, none⟩) 1024 1024) 1024 (bV ndRow) (by rfl) (src_rd (rd_full R4.out ndRow_len)) (bV_one _) (by omega) (by omega) L4.out.size ?_; intro v5 w5 ho hg _; have O5 := yH ho; have G5 := yH hg; clear ho hg))
   obtain ⟨A5, c5, rfl, -⟩ := own_slice O5.out
   have L5 := yH (show Below w.heap.size w w5 from bl_n L4.out G5.out)
   go_roundg 0
   case measure => have := HK.out; omega
   case rel => exact .inr ⟨rfl, rfl, A5, c5, rfl, O5.out, L5.out⟩
  ·have HO := yH ho
   have HL := yH hl
   clear ho hl
   go_wp2_with fail
   go_ret
   exact ⟨A, c', rfl, HO.out, HL.out⟩
end Go.Proofs.YtffalfacakdhkaaGreatDoor
namespace Go.Proofs.YtffalfacakdhkaaGreatDoor
open Go.RowKit Go.Maps
set_option linter.unusedVariables false
set_option linter.unusedSimpArgs false
section
variable {w W W3 W4 : World} {c kb d sb ob n N R G p : Nat} {L : Int → Sec} {cs1 : Array Value} {v0 v1 : Value} {A : Option Addr}
theorem cc_over [gm : Inhabited GMk] {t : TypeId} {cs : Array Value} (h : CcI W c kb d sb ob n L N) (hB : Blk W R t cs) (ht : 5 ≠ t) (hg : W.grownBy W3 (some R)) (hlt : c < R ∧ kb < R ∧ d < R ∧ sb < R ∧ ob < R) : CcI W3 c kb d sb ob n L N :=
 CcI.step h (tch_g hg) hlt (fun b cs hk => blk_ne_tyD hk hB ht)
theorem info_sl1 : (Tryz.prog.info? 25).map (·.size) = some 1 := by kernel_rfl
end
end Go.Proofs.YtffalfacakdhkaaGreatDoor
namespace Go.Proofs.YtffalfacakdhkaaGreatDoor
open Go.RowKit Go.Maps Go.Sort Go.Shelf
set_option linter.unusedVariables false
set_option linter.unusedSimpArgs false
theorem wpl_boxS {P : Program} {w : World} {ops : Array Oper} {rest : List Oper} {o : Oper} {a : Act} {Q : Exit → Act → World → Prop} (hg : o.guard = none) (t : TypeId) (x : Operand) (hop : o.op = .box t x) (v : Value) (hx : a.eval x = v) (hc : v.cells = #[v])
  (hK : ∀ w1, Blk w1 w.heap.size t #[v] → w.grownBy w1 none → w1.heap.size = w.heap.size + 1 → wpList P ops Q rest (a.put o.dst (.pointer (some ⟨w.heap.size, 0, none⟩))) w1) : wpList P ops Q (o :: rest) a w := by
 refine wpList_plain hg fun K' hK' => ?_
 unfold Oper.wp execOp
 simp only [hop, Sem.run_bind, Instr.box, newVar, newRow, run_newObj_alloc, Sem.run_pure, Result.andThen_ok, hx, hc]
 exact hK' _ _ (hK _ (Blk.made _ _ _) (World.grownBy_alloc w _ none) (by simp))
end Go.Proofs.YtffalfacakdhkaaGreatDoor
namespace Go.Proofs.YtffalfacakdhkaaGreatDoor
open Go.RowKit Go.Maps Go.Sort Go.Shelf
set_option linter.unusedVariables false
set_option linter.unusedSimpArgs false
def HdI (h : Hd) : Prop := GeB h.geo ∧ rI h.num ∧ rI h.snap
def SvOk (n : Nat) (h : Hd) : Prop := RightP h.geo ∧ secsI h.geo ≤ n ∧ (0 ≤ h.num ∧ h.num ≤ 1099511627776) ∧ (1 ≤ h.snap ∧ h.snap ≤ 1073741824)
theorem secsG_right {g : Geo} (h : RightP g) : secsG g = secsI g := by unfold secsG; rw [if_pos h]
end Go.Proofs.YtffalfacakdhkaaGreatDoor
namespace Go.Proofs.YtffalfacakdhkaaGreatDoor
open Go.RowKit Go.Maps
set_option linter.unusedVariables false
set_option linter.unusedSimpArgs false
def pgA : Sec := ⟨ndRow.take 512, by rw [List.length_take, ndRow_len]; rfl, fun z hz => ndRow_bytes z (List.mem_of_mem_take hz)⟩
def pgB : Sec := ⟨ndRow.drop 512, by rw [List.length_drop, ndRow_len], fun z hz => ndRow_bytes z (List.mem_of_mem_drop hz)⟩
def pgS : List Sec := [pgA, pgB]
theorem pgS_row : secsL pgS = bV ndRow := by
 show secL pgA ++ (secL pgB ++ []) = _
 rw [List.append_nil]
 unfold secL pgA pgB bV
 rw [← List.map_append, List.take_append_drop]
theorem hdRow_sec (h : Hd) : (hdRow h).length = 512 ∧ ∀ z ∈ hdRow h, 0 ≤ z ∧ z < 256 := ⟨hdRow_len h, hdRow_bytes h⟩
def hdS (h : Hd) : Sec := ⟨hdRow h, hdRow_sec h⟩
theorem hdS_row (h : Hd) : secsL [hdS h] = bV (hdRow h) := by
 show secL (hdS h) ++ [] = _
 rw [List.append_nil]
 rfl
/-- What Save's closures find. -/
structure SvB (c : Nat) (Y : Hd) (Ab Hb Bb : Nat) (A : Option Addr) (p : Nat) (W : World) : Prop where
 a : Blk W Ab 117 #[.pointer (some ⟨c, 0, none⟩)]
 h : Blk W Hb 123 (hdC Y).toArray
 b : Blk W Bb 25 #[.slice A 512 p]
 s : BSrc W A 512 (bV (hdRow Y))
 le : 512 ≤ p
section
variable {w w' : World} {c kb d sb ob n N Ab Hb Bb p : Nat} {L : Int → Sec} {Y : Hd} {A : Option Addr}
theorem SvB.cc [gm : Inhabited GMk] {W' : World} (S : SvB c Y Ab Hb Bb A p w) (h : CcI w c kb d sb ob n L N) (hT : Tch [c, kb, sb, ob] w W') : SvB c Y Ab Hb Bb A p W' :=
 ⟨S.a.cc h hT (by decide), S.h.cc h hT (by decide), S.b.cc h hT (by decide), h.bsrc S.s hT, S.le⟩
theorem SvB.below {W' : World} (S : SvB c Y Ab Hb Bb A p w) (hb : Below w.heap.size w W') : SvB c Y Ab Hb Bb A p W' :=
 ⟨S.a.below hb S.a.lt, S.h.below hb S.h.lt, S.b.below hb S.b.lt, S.s.below hb, S.le⟩
set_option maxRecDepth 100000 in
set_option maxHeartbeats 1000000 in
theorem sv_cl1 [gm : Inhabited GMk] (h : CcI w c kb d sb ob n L N) (hY : HdOk Y) (S : SvB c Y Ab Hb Bb A p w) {Lb nb no q : Nat} (hL : Blk w Lb 217 #[.slice (some ⟨nb, no, none⟩) 1 q]) (hr : w.rangeAt nb no ndE.toList) (hlt : nb < w.heap.size) (m ar : Nat) (hm : Y.num = (m : Int)) (har : (ar : Int) = 2 + 2 * Y.geo.jou + ((m % 2 : Nat) : Int) * (2 * pagesI Y.geo)) (hn : ar + 2 ≤ n) (hN : N ≤ 800000) :
  Calls Tryz.prog 279 #[.pointer (some ⟨Ab, 0, none⟩), .pointer (some ⟨Hb, 0, none⟩), .pointer (some ⟨Lb, 0, none⟩)] w (BlPost w c kb d sb ob n (putL L ar pgS) (N + 2)) := by
 have H := yH h
 have HY := yH hY
 have HS := yH S
 have HL := yH hL
 have HR := yH hr
 have HM := yH (And.intro hm har)
 have HN := yH (And.intro hlt (And.intro hn hN))
 have hmm : m ≤ 1099511627776 := by have := hY.2.1; omega
 have HMM := yH hmm
 obtain ⟨x, hx⟩ : ∃ x, Y.num = x := ⟨_, rfl⟩
 have c5 : w.cell? ⟨Hb, 5, none⟩ = some (.int .i64 (m : Int)) := by rw [← hm]; exact S.h.cell rfl
 clear h hY S hL hr hlt hm har hn hN hmm hx x
 go_enter Tryz.func279, Tryz.ntmps279
 go_upto_region 1 with fail
 refine wp_region_qs (fun _ w' => w'.rangeAt Hb 0 (geC Y.geo) ∧ w'.cell? ⟨Hb, 5, none⟩ = some (.int .i64 (m : Int)) ∧ w'.cell? ⟨Ab, 0, none⟩ = some (.pointer (some ⟨c, 0, none⟩)) ∧ w'.cell? ⟨Lb, 0, none⟩ = some (.slice (some ⟨nb, no, none⟩) 1 q)) [(0, some 2), (1, some 3), (2, some 2), (3, some 3), (4, some 2), (6, some 2), (5, none), (7, none), (8, none), (9, some 3)] (by kernel_rfl) (by kernel_rfl) (by kernel_rfl) (by kernel_rfl) (by kernel_rfl) (fun _ _ _ _ _ h => h) ⟨HS.out.h.part 0 (geC Y.geo) rfl, c5, HS.out.a.cell rfl, HL.out.cell rfl⟩ ?_
 simp only [yD, yE, yF, yG]
 (repeat (first | ((first | (refine qs_row (by rfl) 66 (.tmp 5) (by with_reducible rfl) (Hb) 0 (by rfl) (geC Y.geo) _ (fun j w h1 h2 hS => hS.1) Tryz.underlying66 rfl (geC_info _) ?_) | (refine qs_mid (v := ?_) (by rfl) ?_ ?_; rotate_left 1; (· (intro j w' hj1 hj2 hS; have hS1 := hS.2.1; have hS2 := hS.2.2.1; have hS3 := hS.2.2.2; clear hS; go_simp; (try (simp only [↓IntWalk.iteOmega]; go_simp)); (try simp (disch := omega) only [IntWalk.i64_in]); try with_reducible rfl)))); simp only [Act.put, yA, yB, yC]) | (refine qs_mid (v := ?_) (by rfl) ?_ ?_; rotate_left 1; (· (intro j w' hj1 hj2 hS; go_simp; (try (simp only [↓IntWalk.iteOmega]; go_simp)); (try simp (disch := omega) only [IntWalk.i64_in]); try with_reducible rfl)); simp only [Act.put, yA, yB, yC]) | (refine qs_skip (by rfl) ?_; simp only [Act.put, yA, yB, yC])))
 refine qs_act ?_
 go_wp2_with (go_at_call 213; refine (area_any HY.out.1.geB HY.out.1 m HMM.out).mono ?_; rewrite [← HM.out.2]; rintro e w1 ⟨rfl, hl⟩; have X1 := yH (show Below w.heap.size w w1 from below_chain (Below.refl _ w).drew hl); clear hl)
 have S1 := yH (HS.out.below X1.out)
 have L1 := yH (HL.out.below X1.out HL.out.lt)
 have R1 := yH (range_below HR.out X1.out)
 have C1 := yH (H.out.below X1.out)
 have d1 := cell_below c5 X1.out
 refine ⟨⟨S1.out.h.part 0 (geC Y.geo) rfl, d1, S1.out.a.cell rfl, L1.out.cell rfl⟩, ?_⟩
 (repeat (first | ((first | (refine qs_row (by rfl) 66 (.tmp 5) (by with_reducible rfl) (Hb) 0 (by rfl) (geC Y.geo) _ (fun j w h1 h2 hS => hS.1) Tryz.underlying66 rfl (geC_info _) ?_) | (refine qs_mid (v := ?_) (by rfl) ?_ ?_; rotate_left 1; (· (intro j w' hj1 hj2 hS; have hS1 := hS.2.1; have hS2 := hS.2.2.1; have hS3 := hS.2.2.2; clear hS; go_simp; (try (simp only [↓IntWalk.iteOmega]; go_simp)); (try simp (disch := omega) only [IntWalk.i64_in]); try with_reducible rfl)))); simp only [Act.put, yA, yB, yC]) | (refine qs_mid (v := ?_) (by rfl) ?_ ?_; rotate_left 1; (· (intro j w' hj1 hj2 hS; go_simp; (try (simp only [↓IntWalk.iteOmega]; go_simp)); (try simp (disch := omega) only [IntWalk.i64_in]); try with_reducible rfl)); simp only [Act.put, yA, yB, yC]) | (refine qs_skip (by rfl) ?_; simp only [Act.put, yA, yB, yC])))
 refine qs_act ?_
 go_wp2_with (go_at_call 280; refine (pt_pages R1.out (by have := HN.out; have := X1.out.size; omega)).mono ?_; rintro e w2 ⟨A2, p2, rfl, ho, hl⟩; have O2 := yH ho; have X2 := yH hl; clear ho hl)
 have S2 := yH (S1.out.below X2.out)
 have L2 := yH (L1.out.below X2.out L1.out.lt)
 have C2 := yH (C1.out.below X2.out)
 have d2 := cell_below d1 X2.out
 refine ⟨⟨S2.out.h.part 0 (geC Y.geo) rfl, d2, S2.out.a.cell rfl, L2.out.cell rfl⟩, ?_⟩
 (repeat (first | ((first | (refine qs_row (by rfl) 66 (.tmp 5) (by with_reducible rfl) (Hb) 0 (by rfl) (geC Y.geo) _ (fun j w h1 h2 hS => hS.1) Tryz.underlying66 rfl (geC_info _) ?_) | (refine qs_mid (v := ?_) (by rfl) ?_ ?_; rotate_left 1; (· (intro j w' hj1 hj2 hS; have hS1 := hS.2.1; have hS2 := hS.2.2.1; have hS3 := hS.2.2.2; clear hS; go_simp; (try (simp only [↓IntWalk.iteOmega]; go_simp)); (try simp (disch := omega) only [IntWalk.i64_in]); try with_reducible rfl)))); simp only [Act.put, yA, yB, yC]) | (refine qs_mid (v := ?_) (by rfl) ?_ ?_; rotate_left 1; (· (intro j w' hj1 hj2 hS; go_simp; (try (simp only [↓IntWalk.iteOmega]; go_simp)); (try simp (disch := omega) only [IntWalk.i64_in]); try with_reducible rfl)); simp only [Act.put, yA, yB, yC]) | (refine qs_skip (by rfl) ?_; simp only [Act.put, yA, yB, yC])))
 have Q2 := yH (own_slice O2.out)
 have HB2 := yH (show BSrc w2 A2 (512 * pgS.length) (secsL pgS) by rw [pgS_row]; exact BSrc.of_own O2.out (show 0 < 1024 by omega))
 refine qs_act ?_
 go_wp2_with (go_at_call 77; refine (bl_write C2.out ar pgS ⟨by decide, by decide⟩ (by have := HN.out; show ar + 2 ≤ n; omega) HB2.out (by obtain ⟨A', c', he, hc⟩ := Q2.out; injection he with h1 h2 h3; show 512 * 2 ≤ _; omega) (by have := HN.out; show N + 2 ≤ _; omega)).mono ?_; rintro e w3 ⟨rfl, hC, hT⟩; have C3 := yH hC; have T3 := yH hT; clear hC hT)
 have S3 := yH (S2.out.cc C2.out T3.out)
 have L3 := yH (L2.out.cc C2.out T3.out (by decide))
 have d3 : w3.cell? ⟨Hb, 5, none⟩ = some (.int .i64 (m : Int)) := by rw [← HM.out.1]; exact S3.out.h.cell rfl
 refine ⟨⟨S3.out.h.part 0 (geC Y.geo) rfl, d3, S3.out.a.cell rfl, L3.out.cell rfl⟩, ?_⟩
 (repeat (first | ((first | (refine qs_row (by rfl) 66 (.tmp 5) (by with_reducible rfl) (Hb) 0 (by rfl) (geC Y.geo) _ (fun j w h1 h2 hS => hS.1) Tryz.underlying66 rfl (geC_info _) ?_) | (refine qs_mid (v := ?_) (by rfl) ?_ ?_; rotate_left 1; (· (intro j w' hj1 hj2 hS; have hS1 := hS.2.1; have hS2 := hS.2.2.1; have hS3 := hS.2.2.2; clear hS; go_simp; (try (simp only [↓IntWalk.iteOmega]; go_simp)); (try simp (disch := omega) only [IntWalk.i64_in]); try with_reducible rfl)))); simp only [Act.put, yA, yB, yC]) | (refine qs_mid (v := ?_) (by rfl) ?_ ?_; rotate_left 1; (· (intro j w' hj1 hj2 hS; go_simp; (try (simp only [↓IntWalk.iteOmega]; go_simp)); (try simp (disch := omega) only [IntWalk.i64_in]); try with_reducible rfl)); simp only [Act.put, yA, yB, yC]) | (refine qs_skip (by rfl) ?_; simp only [Act.put, yA, yB, yC])))
 refine qs_nil ?_
 go_wp2_with fail
 go_ret
 exact ⟨rfl, C3.out, ((Tch.below X1.out).trans (Tch.below X2.out)).trans T3.out⟩
set_option maxRecDepth 100000 in
set_option maxHeartbeats 1000000 in
theorem sv_cl2 [gm : Inhabited GMk] (h : CcI w c kb d sb ob n L N) (hY : HdOk Y) (S : SvB c Y Ab Hb Bb A p w) (m J hf : Nat) (hm : Y.num = (m : Int)) (hJ : (J : Int) = Y.geo.jou) (hhf : (hf : Int) = 2 + ((m % 2 : Nat) : Int) * Y.geo.jou) (hn : secsI Y.geo ≤ n) (hN : N ≤ 800000) :
  Calls Tryz.prog 281 #[.pointer (some ⟨Ab, 0, none⟩), .pointer (some ⟨Hb, 0, none⟩)] w (BlPost w c kb d sb ob n (putL L hf (List.replicate J zSec)) (N + J)) := by
 have hmm : m ≤ 1099511627776 := by have := hY.2.1; omega
 have Q := yH (jr_clear h hY.1.geB hY.1 hn m hmm hN J hf hJ hhf)
 have c5 : w.cell? ⟨Hb, 5, none⟩ = some (.int .i64 (m : Int)) := by rw [← hm]; exact S.h.cell rfl
 have c0 : w.cell? ⟨Ab, 0, none⟩ = some (.pointer (some ⟨c, 0, none⟩)) := S.a.cell rfl
 have HS := yH S
 clear h hY S hm hJ hhf hn hN hmm
 go_enter Tryz.func281, Tryz.ntmps281
 go_wp2_with (first
  | (refine wpList_load_mid rfl 66 (.tmp 4) (by rfl) Hb 0 (by rfl) (geC Y.geo) _ (HS.out.h.part 0 (geC Y.geo) rfl) Tryz.underlying66 rfl (geC_info _) ?_; simp only [Act.put, yA, yB, yC])
  | (go_at_call 282; refine Q.out.mono ?_; rintro e w3 ⟨rfl, hC, hT⟩; have C3 := yH hC; have T3 := yH hT; clear hC hT))
 go_ret
 exact ⟨rfl, C3.out, T3.out⟩
set_option maxRecDepth 100000 in
set_option maxHeartbeats 1000000 in
theorem sv_cl3 [gm : Inhabited GMk] (h : CcI w c kb d sb ob n L N) (hY : HdOk Y) (S : SvB c Y Ab Hb Bb A p w) (m : Nat) (hm : Y.num = (m : Int)) (hn : 2 ≤ n) (hN : N ≤ 800000) :
  Calls Tryz.prog 283 #[.pointer (some ⟨Ab, 0, none⟩), .pointer (some ⟨Hb, 0, none⟩), .pointer (some ⟨Bb, 0, none⟩)] w (BlPost w c kb d sb ob n (putL L (m % 2) [hdS Y]) (N + 1)) := by
 have H := yH h
 have HY := yH hY
 have HS := yH S
 have HM := yH hm
 have HN := yH (And.intro hn hN)
 have hmm : m ≤ 1099511627776 := by have := hY.2.1; omega
 have HMM := yH hmm
 have c5 : w.cell? ⟨Hb, 5, none⟩ = some (.int .i64 (m : Int)) := by rw [← hm]; exact S.h.cell rfl
 clear h hY S hm hn hN hmm
 go_enter Tryz.func283, Tryz.ntmps283
 go_upto_region 1 with fail
 refine wp_region_qs (fun _ w' => w'.rangeAt Hb 0 (geC Y.geo) ∧ w'.cell? ⟨Hb, 5, none⟩ = some (.int .i64 (m : Int)) ∧ w'.cell? ⟨Ab, 0, none⟩ = some (.pointer (some ⟨c, 0, none⟩)) ∧ w'.cell? ⟨Bb, 0, none⟩ = some (.slice A 512 p)) [(0, some 1), (1, some 2), (2, some 1), (3, some 2), (4, some 1), (6, some 1), (5, none), (7, none), (8, some 2)] (by kernel_rfl) (by kernel_rfl) (by kernel_rfl) (by kernel_rfl) (by kernel_rfl) (fun _ _ _ _ _ h => h) ⟨HS.out.h.part 0 (geC Y.geo) rfl, c5, HS.out.a.cell rfl, HS.out.b.cell rfl⟩ ?_
 simp only [yD, yE, yF, yG]
 (repeat (first | ((first | (refine qs_row (by rfl) 66 (.tmp 5) (by with_reducible rfl) (Hb) 0 (by rfl) (geC Y.geo) _ (fun j w h1 h2 hS => hS.1) Tryz.underlying66 rfl (geC_info _) ?_) | (refine qs_mid (v := ?_) (by rfl) ?_ ?_; rotate_left 1; (· (intro j w' hj1 hj2 hS; have hS1 := hS.2.1; have hS2 := hS.2.2.1; have hS3 := hS.2.2.2; clear hS; go_simp; (try (simp only [↓IntWalk.iteOmega]; go_simp)); (try simp (disch := omega) only [IntWalk.i64_in]); try with_reducible rfl)))); simp only [Act.put, yA, yB, yC]) | (refine qs_mid (v := ?_) (by rfl) ?_ ?_; rotate_left 1; (· (intro j w' hj1 hj2 hS; go_simp; (try (simp only [↓IntWalk.iteOmega]; go_simp)); (try simp (disch := omega) only [IntWalk.i64_in]); try with_reducible rfl)); simp only [Act.put, yA, yB, yC]) | (refine qs_skip (by rfl) ?_; simp only [Act.put, yA, yB, yC])))
 refine qs_act ?_
 go_wp2_with (go_at_call 78; refine (slot_any HY.out.1.geB HY.out.1 m HMM.out).mono ?_; rintro e w1 ⟨rfl, hl⟩; have X1 := yH (show Below w.heap.size w w1 from below_chain (Below.refl _ w).drew hl); clear hl)
 have S1 := yH (HS.out.below X1.out)
 have C1 := yH (H.out.below X1.out)
 have d1 := cell_below c5 X1.out
 refine ⟨⟨S1.out.h.part 0 (geC Y.geo) rfl, d1, S1.out.a.cell rfl, S1.out.b.cell rfl⟩, ?_⟩
 (repeat (first | ((first | (refine qs_row (by rfl) 66 (.tmp 5) (by with_reducible rfl) (Hb) 0 (by rfl) (geC Y.geo) _ (fun j w h1 h2 hS => hS.1) Tryz.underlying66 rfl (geC_info _) ?_) | (refine qs_mid (v := ?_) (by rfl) ?_ ?_; rotate_left 1; (· (intro j w' hj1 hj2 hS; have hS1 := hS.2.1; have hS2 := hS.2.2.1; have hS3 := hS.2.2.2; clear hS; go_simp; (try (simp only [↓IntWalk.iteOmega]; go_simp)); (try simp (disch := omega) only [IntWalk.i64_in]); try with_reducible rfl)))); simp only [Act.put, yA, yB, yC]) | (refine qs_mid (v := ?_) (by rfl) ?_ ?_; rotate_left 1; (· (intro j w' hj1 hj2 hS; go_simp; (try (simp only [↓IntWalk.iteOmega]; go_simp)); (try simp (disch := omega) only [IntWalk.i64_in]); try with_reducible rfl)); simp only [Act.put, yA, yB, yC]) | (refine qs_skip (by rfl) ?_; simp only [Act.put, yA, yB, yC])))
 have HB2 := yH (show BSrc w1 A (512 * [hdS Y].length) (secsL [hdS Y]) by rw [hdS_row]; exact S1.out.s)
 refine qs_act ?_
 go_wp2_with (go_at_call 77; refine (bl_write C1.out (m % 2) [hdS Y] ⟨by simp, by simp⟩ (by have := HN.out; show m % 2 + 1 ≤ n; omega) HB2.out (show 512 * 1 ≤ p from S1.out.le) (by have := HN.out; show N + 1 ≤ _; omega)).mono ?_; rintro e w3 ⟨rfl, hC, hT⟩; have C3 := yH hC; have T3 := yH hT; clear hC hT)
 have S3 := yH (S1.out.cc C1.out T3.out)
 have d3 : w3.cell? ⟨Hb, 5, none⟩ = some (.int .i64 (m : Int)) := by rw [← HM.out]; exact S3.out.h.cell rfl
 refine ⟨⟨S3.out.h.part 0 (geC Y.geo) rfl, d3, S3.out.a.cell rfl, S3.out.b.cell rfl⟩, ?_⟩
 (repeat (first | ((first | (refine qs_row (by rfl) 66 (.tmp 5) (by with_reducible rfl) (Hb) 0 (by rfl) (geC Y.geo) _ (fun j w h1 h2 hS => hS.1) Tryz.underlying66 rfl (geC_info _) ?_) | (refine qs_mid (v := ?_) (by rfl) ?_ ?_; rotate_left 1; (· (intro j w' hj1 hj2 hS; have hS1 := hS.2.1; have hS2 := hS.2.2.1; have hS3 := hS.2.2.2; clear hS; go_simp; (try (simp only [↓IntWalk.iteOmega]; go_simp)); (try simp (disch := omega) only [IntWalk.i64_in]); try with_reducible rfl)))); simp only [Act.put, yA, yB, yC]) | (refine qs_mid (v := ?_) (by rfl) ?_ ?_; rotate_left 1; (· (intro j w' hj1 hj2 hS; go_simp; (try (simp only [↓IntWalk.iteOmega]; go_simp)); (try simp (disch := omega) only [IntWalk.i64_in]); try with_reducible rfl)); simp only [Act.put, yA, yB, yC]) | (refine qs_skip (by rfl) ?_; simp only [Act.put, yA, yB, yC])))
 refine qs_nil ?_
 go_wp2_with fail
 go_ret
 exact ⟨rfl, C3.out, (Tch.below X1.out).trans T3.out⟩
end
end Go.Proofs.YtffalfacakdhkaaGreatDoor
