/-
  index: New, there, from, may, Len, Get, Add: walked.
-/
import Derived.Test.YtgjjdfhoakailaaGreatStR
import Derived.Test.YtgjjdfhoakailaaGreatStM4
namespace Go.Proofs.YtgjjdfhoakailaaGreat
open Go.RowKit Go.Maps
set_option linter.unusedVariables false
set_option linter.unusedSimpArgs false

section
variable {α β : Type} [DecidableEq α] {P : Program} {kt : TypeId} {kv : α → Value} {kl : α → Lit} {ve : β → Value} {b : Nat} {M : List (α × β)} {l : List Oper} {Q : Exit → Act → World → Prop} {S : Nat → World → Prop}
theorem qs_mlook {o : Oper} {r : List (Oper × Option Nat)} {k m : Nat} {a : Act} {w : World} (hw : Region.wanted o (yielded l.toArray a.tmps) = true) (t : TypeId) (mm x : Operand) (ho : o.op = .lookup t mm x false) {e : TypeId} (K : Keyed P kt) (ht : P.underlying t = some (.map kt e))
    (hm : a.eval mm = .map (some b)) (X : α) (hx : a.eval x = kv X) {z : Value} (hz : ∀ u : World, (zeroValue e).run P u = .ok z u) (hS : ∀ j w, k ≤ j → j ≤ m → S j w → MapIs P kt kv kl ve w b M) (hinj : ∀ p ∈ M, kl p.1 = kl X → p.1 = X) (hkey : keyOf P kt (kv X) = some (kl X))
    (h : wpQs P l Q S r k (a.put o.dst (((aget M X).map ve).getD z)) w) : wpQs P l Q S ((o, some m) :: r) k a w :=
  ⟨_, .inl ⟨hw, fun w' ⟨j, h1, h2, h3⟩ => by
    have hrun := (hS j w' h1 h2 h3).look K ht (hz w') hinj hkey
    unfold execOp
    simp only [ho, hm, hx, Sem.run_bind, hrun, Result.andThen_ok, Sem.run_pure]⟩, h⟩
theorem qs_mlookOk {o : Oper} {r : List (Oper × Option Nat)} {k m : Nat} {a : Act} {w : World} (hw : Region.wanted o (yielded l.toArray a.tmps) = true) (t : TypeId) (mm x : Operand) (ho : o.op = .lookup t mm x true) {e : TypeId} (K : Keyed P kt) (ht : P.underlying t = some (.map kt e))
    (hm : a.eval mm = .map (some b)) (X : α) (hx : a.eval x = kv X) {z : Value} (hz : ∀ u : World, (zeroValue e).run P u = .ok z u) (hS : ∀ j w, k ≤ j → j ≤ m → S j w → MapIs P kt kv kl ve w b M) (hinj : ∀ p ∈ M, kl p.1 = kl X → p.1 = X) (hkey : keyOf P kt (kv X) = some (kl X))
    (h : wpQs P l Q S r k (a.put o.dst (.tuple #[((aget M X).map ve).getD z, .bool (aget M X).isSome])) w) : wpQs P l Q S ((o, some m) :: r) k a w :=
  ⟨_, .inl ⟨hw, fun w' ⟨j, h1, h2, h3⟩ => by
    have hrun := (hS j w' h1 h2 h3).lookOk K ht (hz w') hinj hkey
    unfold execOp
    simp only [ho, hm, hx, Sem.run_bind, hrun, Result.andThen_ok, Sem.run_pure]⟩, h⟩
end
/-- Two places of one key are one key's. -/
theorem klK_inj' {β : Type} {M : List (Key × β)} (X : Key) : ∀ p ∈ M, klK p.1 = klK X → p.1 = X := fun p _ h => klK_inj h
abbrev ExM := List (Key × Pl)
structure IdxIs (w : World) (xi bx : Nat) (E : ExM) : Prop where
  blk : Blk w xi 103 #[.map (some bx)]
  map : MapIs Tryz.prog 50 vKey klK vPl w bx E
section
variable {w w' : World} {xi bx : Nat} {E : ExM}
theorem IdxIs.tch {T : List Nat} (h : IdxIs w xi bx E) (hb : Tch T w w') (h1 : xi ∉ T) (h2 : bx ∉ T) : IdxIs w' xi bx E := ⟨h.blk.tch hb h1, h.map.tch hb h2⟩
theorem IdxIs.below (h : IdxIs w xi bx E) (hb : Below w.heap.size w w') : IdxIs w' xi bx E := h.tch (T := []) (Tch.below hb) (by simp) (by simp)
theorem IdxIs.grown (h : IdxIs w xi bx E) (hg : w.grownBy w' none) : IdxIs w' xi bx E := h.tch (T := []) (Tch.grown hg (by simp)) (by simp) (by simp)
theorem IdxIs.cell (h : IdxIs w xi bx E) : w.cell? ⟨xi, 0, none⟩ = some (.map (some bx)) := h.blk.cell rfl
theorem IdxIs.drew (h : IdxIs w xi bx E) : IdxIs w.drew xi bx E := ⟨h.blk.drew, h.map.drew⟩
end
def IxNewPost (w : World) (e : Ending) (w' : World) : Prop := ∃ xi bx, e = .returned (.pointer (some ⟨xi, 0, none⟩)) ∧ IdxIs w' xi bx [] ∧ w.heap.size ≤ xi ∧ w.heap.size ≤ bx ∧ Below w.heap.size w w'
set_option maxRecDepth 100000 in
theorem idx_new (w : World) : Calls Tryz.prog 36 #[] w (IxNewPost w) := by
  have hmm := @run_makeMap Tryz.prog
  go_enter Tryz.func36, Tryz.ntmps36
  go_wp2_with ((with_reducible show wpList _ _ _ (_ :: _) _ _); refine wpl_box rfl 103 (.tmp 2) rfl #[.map (some w.heap.size)] rfl ?_; intro w1 hk hg hz; have K := Lib.hid hk; have G := Lib.hid hg; clear hk hg hz)
  go_ret
  refine ⟨w.heap.size + 1, w.heap.size, rfl, ⟨?_, ?_⟩, Nat.le_succ _, Nat.le_refl _, ?_⟩
  · have := K.out
    rw [show (w.alloc (Obj.map #[] 0)).heap.size = w.heap.size + 1 by simp] at this
    exact this
  · exact (MapIs.made w _ _ _ _ _).kept G.out (by simp)
  · exact bl_n ((Below.refl _ _).alloc (Nat.le_refl _) _) G.out
set_option maxRecDepth 100000 in
theorem x_there {w : World} {xi bx : Nat} {E : ExM} (h : IdxIs w xi bx E) : Calls Tryz.prog 65 #[.pointer (some ⟨xi, 0, none⟩)] w fun e w' => e = .returned (.bool true) ∧ w = w' := by
  have c0 := h.cell
  clear h
  have hq := fun W => run_neq_map_nil (P := Tryz.prog) W 101 _ _ (some bx) Tryz.underlying101
  go_enter Tryz.func65, Tryz.ntmps65
  go_wp2
  go_ret
  exact ⟨rfl, rfl⟩
theorem from_any (n a b : Int) (w : World) : Calls Tryz.prog 71 #[.int .i64 n, .int .i64 a, .int .i64 b] w fun e w' => e = .returned (.bool (decide (a ≤ n ∧ n ≤ b))) ∧ w = w' := by
  by_cases h1 : a ≤ n
  · by_cases h2 : n ≤ b
    · rw [decide_eq_true (And.intro h1 h2)]
      go_enter Tryz.func71, Tryz.ntmps71
      go_wp2
      go_ret
      simp [h1, h2]
    · rw [decide_eq_false (fun h => h2 h.2)]
      go_enter Tryz.func71, Tryz.ntmps71
      go_wp2
      go_ret
      simp [h1, h2]
  · rw [decide_eq_false (fun h => h1 h.1)]
    go_enter Tryz.func71, Tryz.ntmps71
    go_wp2
    go_ret
    simp [h1]
def mayP (p : Pl) : Bool := decide (0 ≤ p.pos ∧ p.pos ≤ 262144) && decide (1 ≤ p.sec ∧ p.sec ≤ 1024) && decide (1 ≤ p.uni ∧ p.uni ≤ 16) && decide (0 ≤ p.ref ∧ p.ref ≤ 2147483647)
set_option maxRecDepth 100000 in
set_option maxHeartbeats 400000 in
theorem may_x (p : Pl) (w : World) : Calls Tryz.prog 111 #[.agg (plC p).toArray] w fun e w' => e = .returned (.bool (mayP p)) ∧ Below w.heap.size w w' := by
  obtain ⟨b1, h1⟩ : ∃ b, b = decide (0 ≤ p.pos ∧ p.pos ≤ 262144) := ⟨_, rfl⟩
  obtain ⟨b2, h2⟩ : ∃ b, b = decide (1 ≤ p.sec ∧ p.sec ≤ 1024) := ⟨_, rfl⟩
  obtain ⟨b3, h3⟩ : ∃ b, b = decide (1 ≤ p.uni ∧ p.uni ≤ 16) := ⟨_, rfl⟩
  obtain ⟨b4, h4⟩ : ∃ b, b = decide (0 ≤ p.ref ∧ p.ref ≤ 2147483647) := ⟨_, rfl⟩
  have HM := Lib.hid (show mayP p = (b1 && b2 && b3 && b4) by rw [h1, h2, h3, h4]; rfl)
  have C1 := Lib.hid (fun W => from_any p.pos 0 262144 W)
  have C2 := Lib.hid (fun W => from_any p.sec 1 1024 W)
  have C3 := Lib.hid (fun W => from_any p.uni 1 16 W)
  have C4 := Lib.hid (fun W => from_any p.ref 0 2147483647 W)
  rw [← h1] at C1
  rw [← h2] at C2
  rw [← h3] at C3
  rw [← h4] at C4
  clear h1 h2 h3 h4
  go_enter Tryz.func111, Tryz.ntmps111
  go_upto_region 1 with ((with_reducible show wpList _ _ _ (_ :: _) _ _); refine wpl_box rfl 52 (.tmp 0) rfl _ rfl ?_; intro w1 hk hg hz; have K := Lib.hid hk; have G := Lib.hid hg; clear hk hg hz)
  have c0 := K.out.cell (i := 0) rfl
  have c1 := K.out.cell (i := 1) rfl
  have c2 := K.out.cell (i := 2) rfl
  have c3 := K.out.cell (i := 3) rfl
  have L1 := Lib.hid (bl_n (Below.refl _ _) G.out)
  go_wp2_with fail
  refine (C1.out _).mono ?_
  rintro e w2 ⟨rfl, rfl⟩
  cases b1
  · go_wp2_with fail
    go_ret
    rw [HM.out]
    exact ⟨rfl, L1.out⟩
  go_wp2_with fail
  refine (C2.out _).mono ?_
  rintro e w2 ⟨rfl, rfl⟩
  cases b2
  · go_wp2_with fail
    go_ret
    rw [HM.out]
    exact ⟨rfl, L1.out⟩
  go_wp2_with fail
  refine (C3.out _).mono ?_
  rintro e w2 ⟨rfl, rfl⟩
  cases b3
  · go_wp2_with fail
    go_ret
    rw [HM.out]
    exact ⟨rfl, L1.out⟩
  go_wp2_with fail
  refine (C4.out _).mono ?_
  rintro e w2 ⟨rfl, rfl⟩
  go_wp2_with fail
  go_ret
  rw [HM.out]
  exact ⟨rfl, L1.out⟩
set_option maxRecDepth 100000 in
theorem x_len {w : World} {xi bx : Nat} {E : ExM} (h : IdxIs w xi bx E) : Calls Tryz.prog 29 #[.pointer (some ⟨xi, 0, none⟩)] w fun e w' => e = .returned (.int .i64 (E.length : Int)) ∧ w = w' := by
  have c0 := h.cell
  have H := Lib.hid h
  clear h
  go_enter Tryz.func29, Tryz.ntmps29
  go_wp2_with (first
    | (go_at_call 65; refine (x_there H.out).mono ?_; rintro e w2 ⟨rfl, rfl⟩)
    | ((with_reducible show wpList _ _ _ (_ :: _) _ _); refine wpl_mlen rfl 101 (.tmp 9) rfl Tryz.underlying101 H.out.map rfl ?_))
  go_ret
  exact ⟨rfl, rfl⟩
theorem infoPl : (Tryz.prog.info? 52).map (·.size) = some 4 := by kernel_rfl
theorem plC_info (p : Pl) : (Tryz.prog.info? 52).map (·.size) = some (plC p).length := infoPl
theorem zero_Pl (w : World) : (zeroValue 52).run Tryz.prog w = .ok (vPl zPl) w := Tryz.zeroValue52 w
def GetXPost (r : Option Pl) (w : World) (e : Ending) (w' : World) : Prop := e = .returned (.tuple #[vPl (r.getD zPl), .bool r.isSome]) ∧ Below w.heap.size w w'
set_option maxRecDepth 100000 in
set_option maxHeartbeats 1000000 in
theorem x_get {w : World} {xi bx : Nat} {E : ExM} (h : IdxIs w xi bx E) (K : Key) : Calls Tryz.prog 84 #[.pointer (some ⟨xi, 0, none⟩), .agg (keyL K).toArray] w (GetXPost (aget E K) w) := by
  have H := Lib.hid h
  clear h
  obtain ⟨p, hp⟩ : ∃ p, p = (aget E K).getD zPl := ⟨_, rfl⟩
  obtain ⟨bb, hbb⟩ : ∃ b, b = (aget E K).isSome := ⟨_, rfl⟩
  have HV := Lib.hid (show (Value.tuple #[((aget E K).map vPl).getD (vPl zPl), .bool (aget E K).isSome]) = .tuple #[.agg (plC p).toArray, .bool bb] by rw [hp, hbb]; cases aget E K <;> rfl)
  have HP := Lib.hid (show GetXPost (aget E K) w = fun e w' => e = .returned (.tuple #[.agg (plC p).toArray, .bool bb]) ∧ Below w.heap.size w w' by unfold GetXPost; rw [hp, hbb]; rfl)
  rw [HP.out]
  clear hp hbb
  go_enter Tryz.func84, Tryz.ntmps84
  go_upto_region 1 with (first
    | ((with_reducible show wpList _ _ _ (_ :: _) _ _); refine wpl_box rfl 50 (.tmp 1) rfl _ rfl ?_; intro w1 hk hg hz; have K1 := Lib.hid hk; have G1 := Lib.hid hg; have Z1 := Lib.hid hz; clear hk hg hz)
    | ((with_reducible show wpList _ _ _ (_ :: _) _ _); refine wpl_alloc rfl 52 rfl Tryz.zeroValue52 4 rfl ?_; intro w2 cs hk hc hg hz; have K2 := Lib.hid hk; have C2 := Lib.hid hc; have G2 := Lib.hid hg; clear hk hc hg hz))
  have L2 := Lib.hid (bl_n (bl_n (Below.refl _ _) G1.out) G2.out)
  have H2 := Lib.hid (H.out.below L2.out)
  have R2 := Lib.hid (show w2.rangeAt w.heap.size 0 (keyL K) by have := (K1.out.grown G2.out (by simp)).range; rwa [toArr] at this)
  have B2 := Lib.hid (K1.out.grown G2.out (by simp))
  go_wp2_with (go_at_call 65; refine (x_there H2.out).mono ?_; rintro e w3 ⟨rfl, rfl⟩)
  refine wp_region_qs (fun _ w' => (w'.cell? ⟨xi, 0, none⟩ = some (.map (some bx)) ∧ w'.rangeAt w.heap.size 0 (keyL K)) ∧ MapIs Tryz.prog 50 vKey klK vPl w' bx E) [(0, some 1), (1, some 1), (2, some 1), (3, some 1), (4, some 1), (5, some 1), (6, some 1), (7, some 1), (8, some 2), (9, none), (10, none), (11, some 2)] (by kernel_rfl) (by kernel_rfl) (by kernel_rfl) (by kernel_rfl) (by kernel_rfl) (fun _ _ _ _ _ h => h) ⟨⟨H2.out.drew.cell, R2.out⟩, H2.out.drew.map⟩ ?_
  simp only [List.map_cons, List.map_nil, List.getD_cons_succ, List.getD_cons_zero]
  (repeat (first | ((first | (refine qs_row (by rfl) 50 (.tmp 3) rfl w.heap.size 0 rfl (keyL K) _ (fun j w' _ _ h => h.1.2) Tryz.underlying50 rfl (keyL_info K) ?_) | (refine qs_mlookOk (by rfl) 101 (.tmp 16) (.tmp 17) rfl keyed_key Tryz.underlying101 rfl K rfl zero_Pl (fun j w' _ _ h => h.2) (klK_inj' K) (keyOf_key K) ?_; rewrite [HV.out])); simp only [Act.put, List.setIfInBounds_toArray, List.set_cons_zero, List.set_cons_succ]) | (refine qs_now (v := ?_) (by rfl) ?_ ?_; rotate_left 1; (· (intro w' hS; go_simp; (try (simp only [↓IntWalk.iteOmega]; go_simp)); (try simp (disch := omega) only [IntWalk.i64_in]); try with_reducible rfl)); simp only [Act.put, List.setIfInBounds_toArray, List.set_cons_zero, List.set_cons_succ]) | (refine qs_run (v := ?_) (by rfl) ?_ ?_; rotate_left 1; (· (intro j w' hS; go_simp; (try (simp only [↓IntWalk.iteOmega]; go_simp)); (try simp (disch := omega) only [IntWalk.i64_in]); try with_reducible rfl)); simp only [Act.put, List.setIfInBounds_toArray, List.set_cons_zero, List.set_cons_succ]) | (refine qs_skip (by rfl) ?_; simp only [Act.put, List.setIfInBounds_toArray, List.set_cons_zero, List.set_cons_succ])))
  refine qs_act ?_
  go_wp2_with ((with_reducible show wpList _ _ _ (_ :: _) _ _); refine wpl_alloc rfl 52 rfl Tryz.zeroValue52 4 rfl ?_; intro w4 cs4 hk hc hg hz; have K4 := Lib.hid hk; have C4 := Lib.hid hc; have G4 := Lib.hid hg; clear hk hc hg hz)
  have L4 := Lib.hid (show Below w2.heap.size w2 w4 from bl_n (Below.refl _ _).drew G4.out)
  have H4 := Lib.hid (H2.out.below L4.out)
  have R4 := Lib.hid (show w4.rangeAt w.heap.size 0 (keyL K) by have := (B2.out.below L4.out B2.out.lt).range; rwa [toArr] at this)
  refine ⟨⟨⟨H4.out.cell, R4.out⟩, H4.out.map⟩, ?_⟩
  refine qs_act ?_
  go_wp2_with ((with_reducible show wpList _ _ _ (_ :: _) _ _); refine wpl_over rfl 52 (.tmp 6) (.tmp 19) rfl w2.heap.size (plC p) rfl rfl _ cs4 K4.out (plC_info p) (by rw [C4.out]; rfl) (plC_one p) ?_; intro w5 hk hg hz; have K5 := Lib.hid hk; have G5 := Lib.hid hg; clear hk hg hz)
  have L5 := Lib.hid (show Below w2.heap.size w2 w5 from bl_g L4.out G5.out (Nat.le_refl _))
  have H5 := Lib.hid (H2.out.below L5.out)
  have R5 := Lib.hid (show w5.rangeAt w.heap.size 0 (keyL K) by have := (B2.out.below L5.out B2.out.lt).range; rwa [toArr] at this)
  refine ⟨⟨⟨H5.out.cell, R5.out⟩, H5.out.map⟩, ?_⟩
  (repeat (first | (refine qs_now (v := ?_) (by rfl) ?_ ?_; rotate_left 1; (· (intro w' hS; go_simp; (try (simp only [↓IntWalk.iteOmega]; go_simp)); (try simp (disch := omega) only [IntWalk.i64_in]); try with_reducible rfl)); simp only [Act.put, List.setIfInBounds_toArray, List.set_cons_zero, List.set_cons_succ]) | (refine qs_run (v := ?_) (by rfl) ?_ ?_; rotate_left 1; (· (intro j w' hS; go_simp; (try (simp only [↓IntWalk.iteOmega]; go_simp)); (try simp (disch := omega) only [IntWalk.i64_in]); try with_reducible rfl)); simp only [Act.put, List.setIfInBounds_toArray, List.set_cons_zero, List.set_cons_succ]) | (refine qs_skip (by rfl) ?_; simp only [Act.put, List.setIfInBounds_toArray, List.set_cons_zero, List.set_cons_succ])))
  refine qs_nil ?_
  have R6 := Lib.hid (show w5.rangeAt w2.heap.size 0 (plC p) by have := K5.out.range; rwa [toArr] at this)
  have hb2 := K2.out.lt
  have K7 := Lib.hid (K2.out.below L5.out hb2)
  have L8 := Lib.hid (below_chain L2.out L5.out)
  go_wp2_with (first
    | ((with_reducible show wpList _ _ _ (_ :: _) _ _); refine wpList_load_mid rfl 52 (.tmp 6) rfl w2.heap.size 0 rfl (plC p) _ R6.out Tryz.underlying52 rfl (plC_info p) ?_)
    | ((with_reducible show wpList _ _ _ (_ :: _) _ _); refine wpl_over rfl 52 (.tmp 4) (.tmp 21) rfl w1.heap.size (plC p) rfl rfl _ cs K7.out (plC_info p) (by rw [C2.out]; rfl) (plC_one p) ?_; intro w6 hk hg hz; have K8 := Lib.hid hk; have G8 := Lib.hid hg; clear hk hg hz))
  refine bodyPost_ret (results_blk_tmp rfl _ w1.heap.size rfl _ _ K8.out _ Tryz.underlying52 rfl 4 infoPl rfl) rfl ?_
  exact ⟨rfl, bl_g L8.out G8.out (by have := Z1.out; omega)⟩
end Go.Proofs.YtgjjdfhoakailaaGreat
