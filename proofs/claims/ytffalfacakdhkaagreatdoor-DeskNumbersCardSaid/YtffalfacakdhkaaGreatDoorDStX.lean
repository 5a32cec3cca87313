/-
  what this claim needs of: StX (written by cut.py).
-/
import Derived.Test.YtffalfacakdhkaaGreatDoorDStR
import Derived.Test.YtffalfacakdhkaaGreatDoorDStM
namespace Go.Proofs.YtffalfacakdhkaaGreatDoor
open Go.RowKit Go.Maps
set_option linter.unusedVariables false
set_option linter.unusedSimpArgs false

section
variable {α β : Type} [DecidableEq α] {P : Program} {kt : TypeId} {kv : α → Value} {kl : α → Lit} {ve : β → Value} {b : Nat} {M : List (α × β)} {l : List Oper} {Q : Exit → Act → World → Prop} {S : Nat → World → Prop}
theorem qs_mlook {o : Oper} {r : List (Oper × Option Nat)} {k m : Nat} {a : Act} {w : World} (hw : Region.wanted o (yielded l.toArray a.tmps) = true) (t : TypeId) (mm x : Operand) (ho : o.op = .lookup t mm x false) {e : TypeId} (K : Keyed P kt) (ht : P.underlying t = some (.map kt e))
  (hm : a.eval mm = .map (some b)) (X : α) (hx : a.eval x = kv X) {z : Value} (hz : ∀ u : World, (zeroValue e).run P u = .ok z u) (hS : ∀ j w, k ≤ j → j ≤ m → S j w → MapIs P kt kv kl ve w b M) (hinj : ∀ p ∈ M, kl p.1 = kl X → p.1 = X) (hkey : keyOf P kt (kv X) = some (kl X))
  (h : wpQs P l Q S r k (a.put o.dst (((aget M X).map ve).getD z)) w) : wpQs P l Q S ((o, some m) :: r) k a w :=
 ⟨_, .inl ⟨hw, fun w' ⟨j, h1, h2, h3⟩ => by
  have hrun := (hS j w' h1 h2 h3).look K ht (hz w') hinj hkey
  unfold execOp
  simp only [ho, hm, hx, Sem.run_bind, hrun, Result.andThen_ok, Sem.run_pure]⟩, h⟩
theorem qs_mlookOk {o : Oper} {r : List (Oper × Option Nat)} {k m : Nat} {a : Act} {w : World} (hw : Region.wanted o (yielded l.toArray a.tmps) = true) (t : TypeId) (mm x : Operand) (ho : o.op = .lookup t mm x true) {e : TypeId} (K : Keyed P kt) (ht : P.underlying t = some (.map kt e))
  (hm : a.eval mm = .map (some b)) (X : α) (hx : a.eval x = kv X) {z : Value} (hz : ∀ u : World, (zeroValue e).run P u = .ok z u) (hS : ∀ j w, k ≤ j → j ≤ m → S j w → MapIs P kt kv kl ve w b M) (hinj : ∀ p ∈ M, kl p.1 = kl X → p.1 = X) (hkey : keyOf P kt (kv X) = some (kl X))
  (h : wpQs P l Q S r k (a.put o.dst (.tuple #[((aget M X).map ve).getD z, .bool (aget M X).isSome])) w) : wpQs P l Q S ((o, some m) :: r) k a w :=
 ⟨_, .inl ⟨hw, fun w' ⟨j, h1, h2, h3⟩ => by
  have hrun := (hS j w' h1 h2 h3).lookOk K ht (hz w') hinj hkey
  unfold execOp
  simp only [ho, hm, hx, Sem.run_bind, hrun, Result.andThen_ok, Sem.run_pure]⟩, h⟩
end
/-- Two places of one key are one key's. -/
theorem klK_inj' {β : Type} {M : List (Key × β)} (X : Key) : ∀ p ∈ M, klK p.1 = klK X → p.1 = X := fun p _ h => klK_inj h
abbrev ExM := List (Key × Pl)
structure IdxIs (w : World) (xi bx : Nat) (E : ExM) : Prop where
 blk : Blk w xi 302 #[.map (some bx)]
 map : MapIs Tryz.prog 179 vKey klK vPl w bx E
section
variable {w w' : World} {xi bx : Nat} {E : ExM}
theorem IdxIs.tch {T : List Nat} (h : IdxIs w xi bx E) (hb : Tch T w w') (h1 : xi ∉ T) (h2 : bx ∉ T) : IdxIs w' xi bx E := ⟨h.blk.tch hb h1, h.map.tch hb h2⟩
theorem IdxIs.below (h : IdxIs w xi bx E) (hb : Below w.heap.size w w') : IdxIs w' xi bx E := h.tch (T := []) (Tch.below hb) (by simp) (by simp)
theorem IdxIs.grown (h : IdxIs w xi bx E) (hg : w.grownBy w' none) : IdxIs w' xi bx E := h.tch (T := []) (Tch.grown hg (by simp)) (by simp) (by simp)
theorem IdxIs.cell (h : IdxIs w xi bx E) : w.cell? ⟨xi, 0, none⟩ = some (.map (some bx)) := h.blk.cell rfl
theorem IdxIs.drew (h : IdxIs w xi bx E) : IdxIs w.drew xi bx E := ⟨h.blk.drew, h.map.drew⟩
end
def IxNewPost (w : World) (e : Ending) (w' : World) : Prop := ∃ xi bx, e = .returned (.pointer (some ⟨xi, 0, none⟩)) ∧ IdxIs w' xi bx [] ∧ w.heap.size ≤ xi ∧ w.heap.size ≤ bx ∧ Below w.heap.size w w'
set_option maxRecDepth 100000 in
theorem idx_new (w : World) : Calls Tryz.prog 146 #[] w (IxNewPost w) := by
 have hmm := @run_makeMap Tryz.prog
 go_enter Tryz.func146, Tryz.ntmps146
 go_wp2_with ((with_reducible show wpList _ _ _ (_ :: _) _ _); refine wpl_box rfl 302 (.tmp 2) rfl #[.map (some w.heap.size)] rfl ?_; intro w1 hk hg hz; have K := yH hk; have G := yH hg; clear hk hg hz)
 go_ret
 refine ⟨w.heap.size + 1, w.heap.size, rfl, ⟨?_, ?_⟩, Nat.le_succ _, Nat.le_refl _, ?_⟩
 ·have := K.out
  rw [show (w.alloc (Obj.map #[] 0)).heap.size = w.heap.size + 1 by simp] at this
  exact this
 ·exact (MapIs.made w _ _ _ _ _).kept G.out (by simp)
 ·exact bl_n ((Below.refl _ _).alloc (Nat.le_refl _) _) G.out
set_option maxRecDepth 100000 in
theorem x_there {w : World} {xi bx : Nat} {E : ExM} (h : IdxIs w xi bx E) : Calls Tryz.prog 195 #[.pointer (some ⟨xi, 0, none⟩)] w fun e w' => e = .returned (.bool true) ∧ w = w' := by
 have c0 := h.cell
 clear h
 have hq := fun W => run_neq_map_nil (P := Tryz.prog) W 300 _ _ (some bx) Tryz.underlying300
 go_enter Tryz.func195, Tryz.ntmps195
 go_wp2
 go_ret
 exact ⟨rfl, rfl⟩
theorem from_any (n a b : Int) (w : World) : Calls Tryz.prog 274 #[.int .i64 n, .int .i64 a, .int .i64 b] w fun e w' => e = .returned (.bool (decide (a ≤ n ∧ n ≤ b))) ∧ w = w' := by
 by_cases h1 : a ≤ n
 ·by_cases h2 : n ≤ b
  ·rw [decide_eq_true (And.intro h1 h2)]
   go_enter Tryz.func274, Tryz.ntmps274
   go_wp2
   go_ret
   simp [h1, h2]
  ·rw [decide_eq_false (fun h => h2 h.2)]
   go_enter Tryz.func274, Tryz.ntmps274
   go_wp2
   go_ret
   simp [h1, h2]
 ·rw [decide_eq_false (fun h => h1 h.1)]
  go_enter Tryz.func274, Tryz.ntmps274
  go_wp2
  go_ret
  simp [h1]
def mayP (p : Pl) : Bool := decide (0 ≤ p.pos ∧ p.pos ≤ 262144) && decide (1 ≤ p.sec ∧ p.sec ≤ 1024) && decide (1 ≤ p.uni ∧ p.uni ≤ 16) && decide (0 ≤ p.ref ∧ p.ref ≤ 2147483647)
set_option maxRecDepth 100000 in
set_option maxHeartbeats 400000 in
theorem may_x (p : Pl) (w : World) : Calls Tryz.prog 302 #[.agg (plC p).toArray] w fun e w' => e = .returned (.bool (mayP p)) ∧ Below w.heap.size w w' := by
 obtain ⟨b1, h1⟩ : ∃ b, b = decide (0 ≤ p.pos ∧ p.pos ≤ 262144) := ⟨_, rfl⟩
 obtain ⟨b2, h2⟩ : ∃ b, b = decide (1 ≤ p.sec ∧ p.sec ≤ 1024) := ⟨_, rfl⟩
 obtain ⟨b3, h3⟩ : ∃ b, b = decide (1 ≤ p.uni ∧ p.uni ≤ 16) := ⟨_, rfl⟩
 obtain ⟨b4, h4⟩ : ∃ b, b = decide (0 ≤ p.ref ∧ p.ref ≤ 2147483647) := ⟨_, rfl⟩
 have HM := yH (show mayP p = (b1 && b2 && b3 && b4) by rw [h1, h2, h3, h4]; rfl)
 have C1 := yH (fun W => from_any p.pos 0 262144 W)
 have C2 := yH (fun W => from_any p.sec 1 1024 W)
 have C3 := yH (fun W => from_any p.uni 1 16 W)
 have C4 := yH (fun W => from_any p.ref 0 2147483647 W)
 rw [← h1] at C1
 rw [← h2] at C2
 rw [← h3] at C3
 rw [← h4] at C4
 clear h1 h2 h3 h4
 go_enter Tryz.func302, Tryz.ntmps302
 go_upto_region 1 with ((with_reducible show wpList _ _ _ (_ :: _) _ _); refine wpl_box rfl 177 (.tmp 0) rfl _ rfl ?_; intro w1 hk hg hz; have K := yH hk; have G := yH hg; clear hk hg hz)
 have c0 := K.out.cell (i := 0) rfl
 have c1 := K.out.cell (i := 1) rfl
 have c2 := K.out.cell (i := 2) rfl
 have c3 := K.out.cell (i := 3) rfl
 have L1 := yH (bl_n (Below.refl _ _) G.out)
 go_wp2_with fail
 refine (C1.out _).mono ?_
 rintro e w2 ⟨rfl, rfl⟩
 cases b1
 ·go_wp2_with fail
  go_ret
  rw [HM.out]
  exact ⟨rfl, L1.out⟩
 go_wp2_with fail
 refine (C2.out _).mono ?_
 rintro e w2 ⟨rfl, rfl⟩
 cases b2
 ·go_wp2_with fail
  go_ret
  rw [HM.out]
  exact ⟨rfl, L1.out⟩
 go_wp2_with fail
 refine (C3.out _).mono ?_
 rintro e w2 ⟨rfl, rfl⟩
 cases b3
 ·go_wp2_with fail
  go_ret
  rw [HM.out]
  exact ⟨rfl, L1.out⟩
 go_wp2_with fail
 refine (C4.out _).mono ?_
 rintro e w2 ⟨rfl, rfl⟩
 go_wp2_with fail
 go_ret
 rw [HM.out]
 exact ⟨rfl, L1.out⟩
set_option maxRecDepth 100000 in
theorem x_len {w : World} {xi bx : Nat} {E : ExM} (h : IdxIs w xi bx E) : Calls Tryz.prog 120 #[.pointer (some ⟨xi, 0, none⟩)] w fun e w' => e = .returned (.int .i64 (E.length : Int)) ∧ w = w' := by
 have c0 := h.cell
 have H := yH h
 clear h
 go_enter Tryz.func120, Tryz.ntmps120
 go_wp2_with (first
  | (go_at_call 195; refine (x_there H.out).mono ?_; rintro e w2 ⟨rfl, rfl⟩)
  | ((with_reducible show wpList _ _ _ (_ :: _) _ _); refine wpl_mlen rfl 300 (.tmp 9) rfl Tryz.underlying300 H.out.map rfl ?_))
 go_ret
 exact ⟨rfl, rfl⟩
theorem infoPl : (Tryz.prog.info? 177).map (·.size) = some 4 := by kernel_rfl
theorem plC_info (p : Pl) : (Tryz.prog.info? 177).map (·.size) = some (plC p).length := infoPl
theorem zero_Pl (w : World) : (zeroValue 177).run Tryz.prog w = .ok (vPl zPl) w := Tryz.zeroValue177 w
end Go.Proofs.YtffalfacakdhkaaGreatDoor
namespace Go.Proofs.YtffalfacakdhkaaGreatDoor
open Go.RowKit Go.Maps
set_option linter.unusedVariables false
set_option linter.unusedSimpArgs false

theorem IdxIs.put {w w' : World} {xi bx : Nat} {E E' : ExM} (h : IdxIs w xi bx E) (hm : MapIs Tryz.prog 179 vKey klK vPl w' bx E') (hg : w.grownBy w' (some bx)) : IdxIs w' xi bx E' :=
 ⟨h.blk.grown hg (by have := blk_ne_map h.map h.blk; simp; exact this), hm⟩
theorem tch_own {w w' : World} {b : Nat} (hg : w.grownBy w' (some b)) : Tch [b] w w' := Tch.grown hg (fun k hk => by injection hk with hk; subst hk; exact .inl (by simp))
def addE (E : ExM) (K : Key) (p : Pl) : Int := if mayP p = false then 2 else if (aget E K).isSome then 7 else 0
def addX (E : ExM) (K : Key) (p : Pl) : ExM := if addE E K p = 0 then aput E K p else E
def AddPost (xi bx : Nat) (E : ExM) (K : Key) (p : Pl) (w : World) (e : Ending) (w' : World) : Prop := e = .returned (.int .i64 (addE E K p)) ∧ IdxIs w' xi bx (addX E K p) ∧ Tch [bx] w w'
set_option maxRecDepth 100000 in
set_option maxHeartbeats 1000000 in
theorem x_add {w : World} {xi bx : Nat} {E : ExM} (h : IdxIs w xi bx E) (K : Key) (p : Pl) (hE : E.length ≤ 1000000000) : Calls Tryz.prog 226 #[.pointer (some ⟨xi, 0, none⟩), .agg (keyL K).toArray, .agg (plC p).toArray] w (AddPost xi bx E K p w) := by
 have H := yH h
 have HE := yH (show E.length < maxLen by unfold maxLen; omega)
 clear h hE
 obtain ⟨bm, hbm⟩ : ∃ b, b = mayP p := ⟨_, rfl⟩
 have CM := yH (fun W => may_x p W)
 rw [← hbm] at CM
 have HBm := yH hbm
 clear hbm
 go_enter Tryz.func226, Tryz.ntmps226
 go_upto_region 1 with (first
  | ((with_reducible show wpList _ _ _ (_ :: _) _ _); refine wpl_box rfl 179 (.tmp 1) rfl _ rfl ?_; intro w1 hk hg hz; have K1 := yH hk; have G1 := yH hg; have Z1 := yH hz; clear hk hg hz)
  | ((with_reducible show wpList _ _ _ (_ :: _) _ _); refine wpl_box rfl 177 (.tmp 2) rfl _ rfl ?_; intro w2 hk hg hz; have K2 := yH hk; have G2 := yH hg; clear hk hg hz))
 have L2 := yH (bl_n (bl_n (Below.refl _ _) G1.out) G2.out)
 have H2 := yH (H.out.below L2.out)
 have B2 := yH (K1.out.grown G2.out (by simp))
 have R2 := yH (show w2.rangeAt w1.heap.size 0 (plC p) by have := K2.out.range; rwa [toArr] at this)
 go_wp2_with (first
  | (go_at_call 195; refine (x_there H2.out).mono ?_; rintro e w3 ⟨rfl, rfl⟩)
  | ((with_reducible show wpList _ _ _ (_ :: _) _ _); refine wpList_load_mid rfl 177 (.tmp 5) rfl w1.heap.size 0 rfl (plC p) _ R2.out Tryz.underlying177 rfl (plC_info p) ?_)
  | fail)
 refine (CM.out _).mono ?_
 rintro e w3 ⟨rfl, hb⟩
 have L3 := yH hb
 clear hb
 have L3a := yH (below_chain L2.out L3.out)
 have H3 := yH (H.out.below L3a.out)
 cases bm
 ·go_wp2_with fail
  go_ret
  unfold AddPost addX
  rw [show addE E K p = 2 from if_pos HBm.out.symm, if_neg (by decide)]
  exact ⟨rfl, H3.out, Tch.below L3a.out⟩
 have B3 := yH (B2.out.below L3.out B2.out.lt)
 have P3 := yH (K2.out.below L3.out K2.out.lt)
 have R3 := yH (show w3.rangeAt w.heap.size 0 (keyL K) by have := B3.out.range; rwa [toArr] at this)
 clear R2 B2 K1 G1 K2 G2 H2 L2
 obtain ⟨q, hq⟩ : ∃ q, q = (aget E K).getD zPl := ⟨_, rfl⟩
 obtain ⟨bb, hbb⟩ : ∃ b, b = (aget E K).isSome := ⟨_, rfl⟩
 have HV := yH (show (Value.tuple #[((aget E K).map vPl).getD (vPl zPl), .bool (aget E K).isSome]) = .tuple #[.agg (plC q).toArray, .bool bb] by rw [hq, hbb]; cases aget E K <;> rfl)
 have HBb := yH hbb
 clear hq hbb
 go_wp2_with fail
 refine wp_region_qs (fun _ w' => (w'.cell? ⟨xi, 0, none⟩ = some (.map (some bx)) ∧ w'.rangeAt w.heap.size 0 (keyL K)) ∧ MapIs Tryz.prog 179 vKey klK vPl w' bx E) [(0, some 1), (1, some 1), (2, some 1), (3, some 1), (4, some 1), (5, some 1), (6, some 1), (7, some 1), (8, some 2), (9, none), (10, none), (11, some 2)] (by kernel_rfl) (by kernel_rfl) (by kernel_rfl) (by kernel_rfl) (by kernel_rfl) (fun _ _ _ _ _ h => h) ⟨⟨H3.out.drew.cell, R3.out⟩, H3.out.drew.map⟩ ?_
 simp only [yD, yE, yF, yG]
 (repeat (first | ((first | (refine qs_row (by rfl) 179 (.tmp 4) rfl w.heap.size 0 rfl (keyL K) _ (fun j w' _ _ h => h.1.2) Tryz.underlying179 rfl (keyL_info K) ?_) | (refine qs_mlookOk (by rfl) 300 (.tmp 21) (.tmp 22) rfl keyed_key Tryz.underlying300 rfl K rfl zero_Pl (fun j w' _ _ h => h.2) (klK_inj' K) (keyOf_key K) ?_; rewrite [HV.out])); simp only [Act.put, yA, yB, yC]) | (refine qs_mid (v := ?_) (by rfl) ?_ ?_; rotate_left 1; (· (intro j w' hj1 hj2 hS; go_simp; (try (simp only [↓IntWalk.iteOmega]; go_simp)); (try simp (disch := omega) only [IntWalk.i64_in]); try with_reducible rfl)); simp only [Act.put, yA, yB, yC]) | (refine qs_skip (by rfl) ?_; simp only [Act.put, yA, yB, yC])))
 refine qs_act ?_
 go_wp2_with ((with_reducible show wpList _ _ _ (_ :: _) _ _); refine wpl_alloc rfl 177 rfl Tryz.zeroValue177 4 rfl ?_; intro w4 cs4 hk hc hg hz; have K4 := yH hk; have C4 := yH hc; have G4 := yH hg; clear hk hc hg hz)
 have L4 := yH (show Below w3.heap.size w3 w4 from bl_n (Below.refl _ _).drew G4.out)
 have H4 := yH (H3.out.below L4.out)
 have R4 := yH (show w4.rangeAt w.heap.size 0 (keyL K) by have := (B3.out.below L4.out B3.out.lt).range; rwa [toArr] at this)
 refine ⟨⟨⟨H4.out.cell, R4.out⟩, H4.out.map⟩, ?_⟩
 refine qs_act ?_
 go_wp2_with ((with_reducible show wpList _ _ _ (_ :: _) _ _); refine wpl_over rfl 177 (.tmp 7) (.tmp 24) rfl w3.heap.size (plC q) rfl rfl _ cs4 K4.out (plC_info q) (by rw [C4.out]; rfl) (plC_one q) ?_; intro w5 hk hg hz; have K5 := yH hk; have G5 := yH hg; clear hk hg hz)
 have L5 := yH (show Below w3.heap.size w3 w5 from bl_g L4.out G5.out (Nat.le_refl _))
 have H5 := yH (H3.out.below L5.out)
 have B5 := yH (B3.out.below L5.out B3.out.lt)
 have P5 := yH (P3.out.below L5.out P3.out.lt)
 have R5 := yH (show w5.rangeAt w.heap.size 0 (keyL K) by have := B5.out.range; rwa [toArr] at this)
 have Q5 := yH (show w5.rangeAt w1.heap.size 0 (plC p) by have := P5.out.range; rwa [toArr] at this)
 refine ⟨⟨⟨H5.out.cell, R5.out⟩, H5.out.map⟩, ?_⟩
 (repeat (first | (refine qs_mid (v := ?_) (by rfl) ?_ ?_; rotate_left 1; (· (intro j w' hj1 hj2 hS; go_simp; (try (simp only [↓IntWalk.iteOmega]; go_simp)); (try simp (disch := omega) only [IntWalk.i64_in]); try with_reducible rfl)); simp only [Act.put, yA, yB, yC]) | (refine qs_skip (by rfl) ?_; simp only [Act.put, yA, yB, yC])))
 refine qs_nil ?_
 have L8 := yH (below_chain L3a.out L5.out)
 clear L3 L3a H3 B3 P3 R3 K4 C4 G4 L4 H4 R4 K5 G5 L5
 cases bb
 ·go_wp2_with fail
  refine wp_region_qs (fun j0 w' => j0 ≤ 0 → (w'.cell? ⟨xi, 0, none⟩ = some (.map (some bx)) ∧ w'.rangeAt w.heap.size 0 (keyL K)) ∧ w'.rangeAt w1.heap.size 0 (plC p)) [(0, some 0), (1, some 0), (2, some 0), (3, some 0), (4, some 0), (5, some 0), (6, none)] (by kernel_rfl) (by kernel_rfl) (by kernel_rfl) (by kernel_rfl) (by kernel_rfl) (fun _ _ _ _ _ h => h) (fun _ => ⟨⟨H5.out.drew.cell, R5.out⟩, Q5.out⟩) ?_
  simp only [yD, yE, yF, yG]
  (repeat (first | ((first | (refine qs_row (by rfl) 179 (.tmp 4) rfl w.heap.size 0 rfl (keyL K) _ (fun j w' _ h2 h => (h h2).1.2) Tryz.underlying179 rfl (keyL_info K) ?_) | (refine qs_row (by rfl) 177 (.tmp 5) rfl w1.heap.size 0 rfl (plC p) _ (fun j w' _ h2 h => (h h2).2) Tryz.underlying177 rfl (plC_info p) ?_) | (refine qs_mid (v := .map (some bx)) (by rfl) ?_ ?_; rotate_left 1; (· (intro j w' h1 h2 h; have h3 := (h h2).1.1; clear h; go_simp; done)))); simp only [Act.put, yA, yB, yC]) | (refine qs_mid (v := ?_) (by rfl) ?_ ?_; rotate_left 1; (· (intro j w' hj1 hj2 hS; go_simp; (try (simp only [↓IntWalk.iteOmega]; go_simp)); (try simp (disch := omega) only [IntWalk.i64_in]); try with_reducible rfl)); simp only [Act.put, yA, yB, yC]) | (refine qs_skip (by rfl) ?_; simp only [Act.put, yA, yB, yC])))
  refine qs_act ?_
  go_wp2_with ((with_reducible show wpList _ _ _ (_ :: _) _ _); refine wpl_mput rfl 300 (.tmp 30) (.tmp 31) (.tmp 32) rfl keyed_key Tryz.underlying300 H5.out.drew.map HE.out rfl K rfl p rfl (klK_inj' K) (keyOf_key K) ?_; intro w6 hm hg; have M6 := yH hm; have G6 := yH hg; clear hm hg)
  refine ⟨fun h => absurd h (by omega), ?_⟩
  refine qs_nil ?_
  go_wp2_with fail
  go_ret
  unfold AddPost addX
  rw [show addE E K p = 0 by unfold addE; rw [if_neg (by rw [← HBm.out]; decide), if_neg (by rw [← HBb.out]; decide)], if_pos rfl]
  have G6' : w5.grownBy w6 (some bx) := ⟨G6.out.os, G6.out.tape, G6.out.output, G6.out.size, G6.out.block⟩
  exact ⟨rfl, H5.out.put M6.out G6', (Tch.below L8.out).trans (tch_own G6')⟩
 ·go_wp2_with fail
  go_ret
  unfold AddPost addX
  rw [show addE E K p = 7 by unfold addE; rw [if_neg (by rw [← HBm.out]; decide), if_pos (by rw [← HBb.out])], if_neg (by decide)]
  exact ⟨rfl, H5.out, Tch.below L8.out⟩
end Go.Proofs.YtffalfacakdhkaaGreatDoor
namespace Go.Proofs.YtffalfacakdhkaaGreatDoor
open Go.RowKit Go.Maps
set_option linter.unusedVariables false
set_option linter.unusedSimpArgs false

def wantIn (p : Pl) (n : Int) : Prop := -p.ref ≤ n ∧ n ≤ 2147483647 - p.ref
instance (p : Pl) (n : Int) : Decidable (wantIn p n) := inferInstanceAs (Decidable (_ ∧ _))
def plAdd (p : Pl) (n : Int) : Pl := ⟨p.pos, p.sec, p.uni, p.ref + n⟩
def W1Post (B c7 : Nat) (p : Pl) (n : Int) (w : World) (e : Ending) (w' : World) : Prop := Tch [B, c7] w w' ∧
 ((wantIn p n ∧ e = .returned (.bool true) ∧ Blk w' B 177 (plC (plAdd p n)).toArray ∧ Blk w' c7 4 #[.bool (p.ref + n == 0)]) ∨ (¬ wantIn p n ∧ e = .returned (.bool false) ∧ Below w.heap.size w w'))
set_option maxRecDepth 100000 in
set_option maxHeartbeats 1000000 in
theorem want1_any {w : World} {B c5 c7 : Nat} {p : Pl} {n : Int} {v7 : Bool} (hB : Blk w B 177 (plC p).toArray) (h5 : w.cell? ⟨c5, 0, none⟩ = some (.int .i64 n)) (h7 : Blk w c7 4 #[.bool v7]) (hp : 0 ≤ p.ref ∧ p.ref ≤ 2147483647) (hn : -9223372036854775808 ≤ n ∧ n ≤ 9223372036854775807) :
  Calls Tryz.prog 320 #[.pointer (some ⟨B, 0, none⟩), .pointer (some ⟨c5, 0, none⟩), .pointer (some ⟨c7, 0, none⟩)] w (W1Post B c7 p n w) := by
 have KB := yH hB
 have K7 := yH h7
 have c3 := hB.cell (i := 3) (v := .int .i64 p.ref) rfl
 have f3 := hB.free 3
 obtain ⟨hp1, hp2⟩ := hp
 obtain ⟨hn1, hn2⟩ := hn
 clear hB h7
 obtain ⟨bb, hbb⟩ : ∃ b, b = decide (-p.ref ≤ n ∧ n ≤ 2147483647 - p.ref) := ⟨_, rfl⟩
 have CF := yH (fun W => from_any n (-p.ref) (2147483647 - p.ref) W)
 rw [← hbb] at CF
 have HB := yH hbb
 clear hbb
 obtain ⟨rf, hrf⟩ : ∃ r, r = p.ref := ⟨_, rfl⟩
 rw [← hrf] at c3 hp1 hp2 CF
 have HRf := yH hrf
 clear hrf
 go_enter Tryz.func320, Tryz.ntmps320
 go_wp2_with fail
 refine wp_region_qs (fun _ w' => w'.cell? ⟨c5, 0, none⟩ = some (.int .i64 n) ∧ w'.cell? ⟨B, 3, none⟩ = some (.int .i64 rf)) [(0, some 0), (1, some 1), (2, some 1), (3, some 1), (4, some 1), (5, some 0), (6, some 1), (7, some 1), (8, some 1), (9, some 1), (10, some 0), (11, none), (12, some 1)] (by kernel_rfl) (by kernel_rfl) (by kernel_rfl) (by kernel_rfl) (by kernel_rfl) (fun _ _ _ _ _ h => h) ⟨h5, c3⟩ ?_
 simp only [yD, yE, yF, yG]
 (repeat (first | (refine qs_mid (v := ?_) (by rfl) ?_ ?_; rotate_left 1; (· (intro j w' hj1 hj2 hS; go_simp; (try (simp only [↓IntWalk.iteOmega]; go_simp)); (try simp (disch := omega) only [IntWalk.i64_in]); try with_reducible rfl)); simp only [Act.put, yA, yB, yC]) | (refine qs_skip (by rfl) ?_; simp only [Act.put, yA, yB, yC])))
 refine qs_act ?_
 go_wp2_with fail
 refine (CF.out _).mono ?_
 rintro e w2 ⟨rfl, rfl⟩
 go_wp2
 refine ⟨⟨h5, c3⟩, ?_⟩
 (repeat (first | (refine qs_mid (v := ?_) (by rfl) ?_ ?_; rotate_left 1; (· (intro j w' hj1 hj2 hS; go_simp; (try (simp only [↓IntWalk.iteOmega]; go_simp)); (try simp (disch := omega) only [IntWalk.i64_in]); try with_reducible rfl)); simp only [Act.put, yA, yB, yC]) | (refine qs_skip (by rfl) ?_; simp only [Act.put, yA, yB, yC])))
 refine qs_nil ?_
 cases bb
 ·go_wp2_with fail
  go_ret
  refine ⟨Tch.below (Below.refl _ _).drew, .inr ⟨?_, rfl, (Below.refl _ _).drew⟩⟩
  unfold wantIn
  exact of_decide_eq_false HB.out.symm
 ·have hin : wantIn p n := of_decide_eq_true HB.out.symm
  have HIn := yH hin
  have hb1 : -rf ≤ n ∧ n ≤ 2147483647 - rf := by rw [HRf.out]; exact hin
  obtain ⟨hb1, hb2⟩ := hb1
  clear hin
  go_wp2_with fail
  refine wp_region_qs (fun j0 w' => j0 ≤ 0 → w'.cell? ⟨c5, 0, none⟩ = some (.int .i64 n) ∧ w'.cell? ⟨B, 3, none⟩ = some (.int .i64 rf)) [(0, some 0), (1, some 0), (2, some 0), (3, some 0), (4, some 0), (5, some 0), (6, some 1), (7, some 0), (8, none)] (by kernel_rfl) (by kernel_rfl) (by kernel_rfl) (by kernel_rfl) (by kernel_rfl) (fun _ _ _ _ _ h => h) (fun _ => ⟨h5, c3⟩) ?_
  simp only [yD, yE, yF, yG]
  (repeat (first | ((first | (refine qs_mid (v := .int .i64 n) (by rfl) ?_ ?_; rotate_left 1; (· (intro j w' h1 h2 h; have h3 := (h h2).1; clear h; go_simp; done))) | (refine qs_mid (v := .int .i64 rf) (by rfl) ?_ ?_; rotate_left 1; (· (intro j w' h1 h2 h; have h3 := (h h2).2; clear h; go_simp; done)))); simp only [Act.put, yA, yB, yC]) | (refine qs_mid (v := ?_) (by rfl) ?_ ?_; rotate_left 1; (· (intro j w' hj1 hj2 hS; go_simp; (try (simp only [↓IntWalk.iteOmega]; go_simp)); (try simp (disch := omega) only [IntWalk.i64_in]); try with_reducible rfl)); simp only [Act.put, yA, yB, yC]) | (refine qs_skip (by rfl) ?_; simp only [Act.put, yA, yB, yC])))
  refine qs_act ?_
  go_wp2_with fail
  refine ⟨fun h => absurd h (by omega), ?_⟩
  refine qs_nil ?_
  obtain ⟨w2, hw2⟩ : ∃ w2, w2 = (w.setCell ⟨B, 3, none⟩ (.int .i64 (rf + n))).drew.drew := ⟨_, rfl⟩
  have hB2 : Blk w2 B 177 (plC (plAdd p n)).toArray := by
   have := (KB.out.put 3 (.int .i64 (rf + n))).drew.drew
   rw [← hw2] at this
   have e : (plC p).toArray.setIfInBounds 3 (.int .i64 (rf + n)) = (plC (plAdd p n)).toArray := by rw [HRf.out]; rfl
   rw [e] at this
   exact this
  have hne : c7 ≠ B := blk_ne_ty K7.out KB.out (by decide)
  have h72 : Blk w2 c7 4 #[.bool v7] := by rw [hw2]; exact (K7.out.else_ (p := ⟨B, 3, none⟩) hne _).drew.drew
  have T2 := yH (show Tch [B, c7] w w2 from Tch.grown (row := some B) (by have := grown_put w ⟨B, 3, none⟩ (.int .i64 (rf + n)); rw [hw2]; exact ⟨this.os, this.tape, this.output, this.size, this.block⟩) (fun k hk => by injection hk with hk; subst hk; exact .inl (by simp)))
  have KB2 := yH hB2
  have K72 := yH h72
  have HNe := yH hne
  rw [← hw2]
  have c32 := hB2.cell (i := 3) (v := .int .i64 (rf + n)) (by rw [HRf.out]; rfl)
  have c72 := h72.cell (i := 0) (v := .bool v7) rfl
  have f72 := h72.free 0
  clear hw2 hB2 h72 c3 f3 h5 hne
  obtain ⟨z, hz⟩ : ∃ z, z = rf + n := ⟨_, rfl⟩
  rw [← hz] at c32
  have HZ := yH hz
  clear hz
  obtain ⟨bz, hbz⟩ : ∃ b, b = (z == 0) := ⟨_, rfl⟩
  have HBz := yH hbz
  have hbz' : (z == 0) = bz := hbz.symm
  clear hbz
  go_wp2_with fail
  go_ret
  have hT : w2.grownBy (w2.setCell ⟨c7, 0, none⟩ (.bool bz)) (some c7) := grown_put w2 ⟨c7, 0, none⟩ (.bool bz)
  refine ⟨T2.out.trans (Tch.grown hT (fun k hk => by injection hk with hk; subst hk; exact .inl (by simp))), .inl ⟨HIn.out, rfl, KB2.out.grown hT (by have := HNe.out; simp; omega), ?_⟩⟩
  have := K72.out.put 0 (.bool bz)
  rw [HBz.out, HZ.out, HRf.out] at this
  rw [HBz.out, HZ.out, HRf.out]
  exact this
end Go.Proofs.YtffalfacakdhkaaGreatDoor
namespace Go.Proofs.YtffalfacakdhkaaGreatDoor
open Go.RowKit Go.Maps
set_option linter.unusedVariables false
set_option linter.unusedSimpArgs false

def turnE (E : ExM) (K : Key) (n : Int) : Int := match aget E K with
 | none => 6
 | some p => if wantIn p n then 0 else 2
def turnX (E : ExM) (K : Key) (n : Int) : ExM := match aget E K with
 | none => E
 | some p => if wantIn p n then aput E K (plAdd p n) else E
def turnG (E : ExM) (K : Key) (n : Int) : Bool := match aget E K with
 | none => false
 | some p => if wantIn p n then p.ref + n == 0 else false
def RefOk (E : ExM) : Prop := ∀ q ∈ E, 0 ≤ q.2.ref ∧ q.2.ref ≤ 2147483647
def TurnPost (xi bx c7 : Nat) (E : ExM) (K : Key) (n : Int) (w : World) (e : Ending) (w' : World) : Prop := e = .returned (.int .i64 (turnE E K n)) ∧ IdxIs w' xi bx (turnX E K n) ∧ Blk w' c7 4 #[.bool (turnG E K n)] ∧ Tch [bx, c7] w w'
set_option maxRecDepth 100000 in
set_option maxHeartbeats 1000000 in
theorem turn_any {w : World} {xi bx c5 c7 : Nat} {E : ExM} {K : Key} {n : Int} (h : IdxIs w xi bx E) (h5 : w.cell? ⟨c5, 0, none⟩ = some (.int .i64 n)) (h5l : c5 < w.heap.size) (h7 : Blk w c7 4 #[.bool false]) (hE : E.length ≤ 1000000000) (hR : RefOk E) (hn : -9223372036854775808 ≤ n ∧ n ≤ 9223372036854775807) :
  Calls Tryz.prog 272 #[.pointer (some ⟨xi, 0, none⟩), .agg (keyL K).toArray, .func (.func 320) #[] #[.pointer (some ⟨c5, 0, none⟩), .pointer (some ⟨c7, 0, none⟩)]] w (TurnPost xi bx c7 E K n w) := by
 have H := yH h
 have HC5 := yH h5
 have H7 := yH h7
 have HR := yH hR
 have HN := yH hn
 have HE := yH (show E.length < maxLen by unfold maxLen; omega)
 clear h h5 h7 hE hR hn
 obtain ⟨q, hq⟩ : ∃ p, p = (aget E K).getD zPl := ⟨_, rfl⟩
 obtain ⟨bb, hbb⟩ : ∃ b, b = (aget E K).isSome := ⟨_, rfl⟩
 have HV := yH (show (Value.tuple #[((aget E K).map vPl).getD (vPl zPl), .bool (aget E K).isSome]) = .tuple #[.agg (plC q).toArray, .bool bb] by rw [hq, hbb]; cases aget E K <;> rfl)
 have HQ := yH hq
 have HBb := yH hbb
 clear hq hbb
 go_enter Tryz.func272, Tryz.ntmps272
 go_upto_region 1 with ((with_reducible show wpList _ _ _ (_ :: _) _ _); refine wpl_box rfl 179 (.tmp 1) rfl _ rfl ?_; intro w2 hk hg hz; have B2 := yH hk; have G2 := yH hg; have Z2 := yH hz; clear hk hg hz)
 have L2 := yH (bl_n (Below.refl _ _) G2.out)
 have H2 := yH (H.out.below L2.out)
 have R2 := yH (show w2.rangeAt w.heap.size 0 (keyL K) by have := B2.out.range; rwa [toArr] at this)
 go_wp2_with (go_at_call 195; refine (x_there H2.out).mono ?_; rintro e w3 ⟨rfl, rfl⟩)
 refine wp_region_qs (fun _ w' => (w'.cell? ⟨xi, 0, none⟩ = some (.map (some bx)) ∧ w'.rangeAt w.heap.size 0 (keyL K)) ∧ MapIs Tryz.prog 179 vKey klK vPl w' bx E) [(0, some 1), (1, some 1), (2, some 1), (3, some 1), (4, some 1), (5, some 1), (6, some 1), (7, some 1), (8, some 2), (9, none), (10, none), (11, some 2)] (by kernel_rfl) (by kernel_rfl) (by kernel_rfl) (by kernel_rfl) (by kernel_rfl) (fun _ _ _ _ _ h => h) ⟨⟨H2.out.drew.cell, R2.out⟩, H2.out.drew.map⟩ ?_
 simp only [yD, yE, yF, yG]
 (repeat (first | ((first | (refine qs_row (by rfl) 179 (.tmp 4) rfl w.heap.size 0 rfl (keyL K) _ (fun j w' _ _ h => h.1.2) Tryz.underlying179 rfl (keyL_info K) ?_) | (refine qs_mlookOk (by rfl) 300 (.tmp 16) (.tmp 17) rfl keyed_key Tryz.underlying300 rfl K rfl zero_Pl (fun j w' _ _ h => h.2) (klK_inj' K) (keyOf_key K) ?_; rewrite [HV.out])); simp only [Act.put, yA, yB, yC]) | (refine qs_mid (v := ?_) (by rfl) ?_ ?_; rotate_left 1; (· (intro j w' hj1 hj2 hS; go_simp; (try (simp only [↓IntWalk.iteOmega]; go_simp)); (try simp (disch := omega) only [IntWalk.i64_in]); try with_reducible rfl)); simp only [Act.put, yA, yB, yC]) | (refine qs_skip (by rfl) ?_; simp only [Act.put, yA, yB, yC])))
 refine qs_act ?_
 go_wp2_with ((with_reducible show wpList _ _ _ (_ :: _) _ _); refine wpl_alloc rfl 177 rfl Tryz.zeroValue177 4 rfl ?_; intro w4 cs4 hk hc hg hz; have K4 := yH hk; have C4 := yH hc; have G4 := yH hg; clear hk hc hg hz)
 have L4 := yH (show Below w2.heap.size w2 w4 from bl_n (Below.refl _ _).drew G4.out)
 have H4 := yH (H2.out.below L4.out)
 have R4 := yH (show w4.rangeAt w.heap.size 0 (keyL K) by have := (B2.out.below L4.out B2.out.lt).range; rwa [toArr] at this)
 refine ⟨⟨⟨H4.out.cell, R4.out⟩, H4.out.map⟩, ?_⟩
 refine qs_act ?_
 go_wp2_with ((with_reducible show wpList _ _ _ (_ :: _) _ _); refine wpl_over rfl 177 (.tmp 7) (.tmp 19) rfl w2.heap.size (plC q) rfl rfl _ cs4 K4.out (plC_info q) (by rw [C4.out]; rfl) (plC_one q) ?_; intro w5 hk hg hz; have K5 := yH hk; have G5 := yH hg; clear hk hg hz)
 have L5 := yH (show Below w2.heap.size w2 w5 from bl_g L4.out G5.out (Nat.le_refl _))
 have H5 := yH (H2.out.below L5.out)
 have B5 := yH (B2.out.below L5.out B2.out.lt)
 have R5 := yH (show w5.rangeAt w.heap.size 0 (keyL K) by have := B5.out.range; rwa [toArr] at this)
 refine ⟨⟨⟨H5.out.cell, R5.out⟩, H5.out.map⟩, ?_⟩
 (repeat (first | (refine qs_mid (v := ?_) (by rfl) ?_ ?_; rotate_left 1; (· (intro j w' hj1 hj2 hS; go_simp; (try (simp only [↓IntWalk.iteOmega]; go_simp)); (try simp (disch := omega) only [IntWalk.i64_in]); try with_reducible rfl)); simp only [Act.put, yA, yB, yC]) | (refine qs_skip (by rfl) ?_; simp only [Act.put, yA, yB, yC])))
 refine qs_nil ?_
 have L8 := yH (below_chain L2.out L5.out)
 have C75 := yH (H7.out.below L8.out H7.out.lt)
 have C55 := yH (show w5.cell? ⟨c5, 0, none⟩ = some (.int .i64 n) by rw [L8.out.cell (p := ⟨c5, 0, none⟩) h5l]; exact HC5.out)
 clear K4 C4 G4 L4 H4 R4 G5 L5
 cases bb
 ·have hnone : aget E K = none := by have := HBb.out; cases h : aget E K with
   | none => rfl
   | some p => rw [h] at this; cases this
  have HNo := yH hnone
  clear hnone
  go_wp2_with fail
  go_ret
  unfold TurnPost turnE turnX turnG
  rw [HNo.out]
  exact ⟨rfl, H5.out, C75.out, Tch.below L8.out⟩
 ·have hsome : aget E K = some q := by have := HBb.out; have e := HQ.out; cases h : aget E K with
   | none => rw [h] at this; cases this
   | some p => rw [h] at e; rw [e]; rfl
  have HSo := yH hsome
  have hqr := HR.out _ (aget_mem hsome)
  have HQr := yH hqr
  clear hsome hqr
  go_wp2_with fail
  refine (want1_any K5.out C55.out C75.out HQr.out HN.out).mono ?_
  rintro e w6 ⟨hT, hcase⟩
  have T6 := yH hT
  clear hT
  have HAp := yH (show xi ∉ [w2.heap.size, c7] ∧ bx ∉ [w2.heap.size, c7] ∧ w.heap.size ∉ [w2.heap.size, c7] ∧ bx ≠ c7 by
   have h1 := H.out.blk.lt
   have h2 := H.out.map.lt
   have h3 := H7.out.lt
   have h4 := Z2.out
   have h5 := blk_ne_ty H.out.blk H7.out (by decide)
   have h6 := blk_ne_map H.out.map H7.out
   simp
   omega)
  rcases hcase with ⟨hin, rfl, hB, h7⟩ | ⟨hout, rfl, hb⟩
  ·have H6 := yH (H5.out.tch T6.out HAp.out.1 HAp.out.2.1)
   have B6 := yH (B5.out.tch T6.out HAp.out.2.2.1)
   have R6 := yH (show w6.rangeAt w.heap.size 0 (keyL K) by have := B6.out.range; rwa [toArr] at this)
   have P6 := yH (show w6.rangeAt w2.heap.size 0 (plC (plAdd q n)) by have := hB.range; rwa [toArr] at this)
   have HIn := yH hin
   have C76 := yH h7
   clear hin hB h7
   go_wp2_with fail
   refine wp_region_qs (fun j0 w' => j0 ≤ 0 → (w'.cell? ⟨xi, 0, none⟩ = some (.map (some bx)) ∧ w'.rangeAt w.heap.size 0 (keyL K)) ∧ w'.rangeAt w2.heap.size 0 (plC (plAdd q n))) [(0, some 0), (1, some 0), (2, some 0), (3, some 0), (4, some 0), (5, some 0), (6, none)] (by kernel_rfl) (by kernel_rfl) (by kernel_rfl) (by kernel_rfl) (by kernel_rfl) (fun _ _ _ _ _ h => h) (fun _ => ⟨⟨H6.out.drew.cell, R6.out⟩, P6.out⟩) ?_
   simp only [yD, yE, yF, yG]
   (repeat (first | ((first | (refine qs_row (by rfl) 179 (.tmp 4) rfl w.heap.size 0 rfl (keyL K) _ (fun j w' _ h2 h => (h h2).1.2) Tryz.underlying179 rfl (keyL_info K) ?_) | (refine qs_row (by rfl) 177 (.tmp 7) rfl w2.heap.size 0 rfl (plC (plAdd q n)) _ (fun j w' _ h2 h => (h h2).2) Tryz.underlying177 rfl (plC_info _) ?_) | (refine qs_mid (v := .map (some bx)) (by rfl) ?_ ?_; rotate_left 1; (· (intro j w' h1 h2 h; have h3 := (h h2).1.1; clear h; go_simp; done)))); simp only [Act.put, yA, yB, yC]) | (refine qs_mid (v := ?_) (by rfl) ?_ ?_; rotate_left 1; (· (intro j w' hj1 hj2 hS; go_simp; (try (simp only [↓IntWalk.iteOmega]; go_simp)); (try simp (disch := omega) only [IntWalk.i64_in]); try with_reducible rfl)); simp only [Act.put, yA, yB, yC]) | (refine qs_skip (by rfl) ?_; simp only [Act.put, yA, yB, yC])))
   refine qs_act ?_
   go_wp2_with ((with_reducible show wpList _ _ _ (_ :: _) _ _); refine wpl_mput rfl 300 (.tmp 29) (.tmp 30) (.tmp 31) rfl keyed_key Tryz.underlying300 H6.out.drew.map HE.out rfl K rfl (plAdd q n) rfl (klK_inj' K) (keyOf_key K) ?_; intro w7 hm hg; have M7 := yH hm; have G7 := yH hg; clear hm hg)
   refine ⟨fun h => absurd h (by omega), ?_⟩
   refine qs_nil ?_
   go_wp2_with fail
   go_ret
   unfold TurnPost turnE turnX turnG
   rw [HSo.out]
   simp only [HIn.out, if_true]
   have G7' : w6.grownBy w7 (some bx) := ⟨G7.out.os, G7.out.tape, G7.out.output, G7.out.size, G7.out.block⟩
   refine ⟨rfl, H6.out.put M7.out G7', C76.out.grown G7' (by have := HAp.out.2.2.2; simp; omega), ?_⟩
   exact (Tch.below L8.out).fresh ((T6.out.mono (T' := [bx, w2.heap.size, c7]) (fun k hk => List.mem_cons_of_mem _ hk)).trans ((tch_own G7').mono (fun k hk => by simp at hk; subst hk; simp))) (fun i hi => by have := Z2.out; simp at hi ⊢; omega)
  ·have HOut := yH hout
   have L9 := yH hb
   clear hout hb
   go_wp2_with fail
   go_ret
   unfold TurnPost turnE turnX turnG
   rw [HSo.out]
   simp only [HOut.out, if_false]
   exact ⟨rfl, H5.out.below L9.out, C75.out.below L9.out C75.out.lt, Tch.below (below_chain L8.out L9.out)⟩
def wantX (E : ExM) (K : Key) (n : Int) : ExM := if turnG E K n then adel (turnX E K n) K else turnX E K n
def WantPost (xi bx : Nat) (E : ExM) (K : Key) (n : Int) (w : World) (e : Ending) (w' : World) : Prop := e = .returned (.int .i64 (turnE E K n)) ∧ IdxIs w' xi bx (wantX E K n) ∧ Tch [bx] w w'
set_option maxRecDepth 100000 in
set_option maxHeartbeats 1000000 in
theorem x_want {w : World} {xi bx : Nat} {E : ExM} (h : IdxIs w xi bx E) (K : Key) (n : Int) (hE : E.length ≤ 1000000000) (hR : RefOk E) (hn : -9223372036854775808 ≤ n ∧ n ≤ 9223372036854775807) :
  Calls Tryz.prog 249 #[.pointer (some ⟨xi, 0, none⟩), .agg (keyL K).toArray, .int .i64 n] w (WantPost xi bx E K n w) := by
 have H := yH h
 have HR := yH hR
 have HN := yH hn
 have HE := yH hE
 clear h hE hR hn
 go_enter Tryz.func249, Tryz.ntmps249
 go_upto_region 2 with ((with_reducible show wpList _ _ _ (_ :: _) _ _); refine wpl_box rfl 179 (.tmp 1) rfl _ rfl ?_; intro w2 hk hg hz; have B2 := yH hk; have G2 := yH hg; have Z2 := yH hz; clear hk hg hz)
 obtain ⟨w3, hw3⟩ : ∃ w3, w3 = (w2.alloc (Obj.cells #[Value.int .i64 n] 3)).alloc (Obj.cells #[Value.bool false] 4) := ⟨_, rfl⟩
 have L3 := yH (show Below w.heap.size w w3 by rw [hw3]; exact ((bl_n (Below.refl _ _) G2.out).alloc (bl_n (Below.refl _ _) G2.out).size _).alloc (by have := (bl_n (Below.refl w.heap.size w) G2.out).size; simp; omega) _)
 have L3' := yH (show Below w2.heap.size w2 w3 by rw [hw3]; exact ((Below.refl _ _).alloc (Nat.le_refl _) _).alloc (by simp) _)
 have B3 := yH (B2.out.below L3'.out B2.out.lt)
 have C5 := yH (show Blk w3 w2.heap.size 3 #[.int .i64 n] by rw [hw3]; exact (Blk.made _ _ _).alloc _)
 have C7 := yH (show Blk w3 (w2.heap.size + 1) 4 #[.bool false] by rw [hw3]; exact Blk.made_at _ _ _ (by simp))
 have H3 := yH (H.out.below L3.out)
 have R3 := yH (show w3.rangeAt w.heap.size 0 (keyL K) by have := B3.out.range; rwa [toArr] at this)
 rw [← hw3]
 clear hw3
 go_upto_region 3 with (first
  | ((with_reducible show wpList _ _ _ (_ :: _) _ _); refine wpList_load_mid rfl 179 (.tmp 4) rfl w.heap.size 0 rfl (keyL K) _ R3.out Tryz.underlying179 rfl (keyL_info K) ?_)
  | (go_at_call 272; refine (turn_any H3.out (C5.out.cell (i := 0) rfl) C5.out.lt C7.out HE.out HR.out HN.out).mono ?_; rintro e w4 ⟨rfl, h1, h2, h3⟩; have H4 := yH h1; have C74 := yH h2; have T4 := yH h3; clear h1 h2 h3)
  | fail)
 have c7 := C74.out.cell (i := 0) rfl
 have HAp := yH (show w.heap.size ∉ [bx, w2.heap.size + 1] ∧ ∀ w', Tch [bx] w4 w' → Tch [bx] w w' by
  have h2 := H.out.map.lt
  have h4 := Z2.out
  refine ⟨by simp; omega, fun w' hT => ?_⟩
  refine (Tch.below L3.out).fresh (T4.out.trans (hT.mono (T' := [bx, w2.heap.size + 1]) (fun k hk => by simp at hk; subst hk; simp))) (fun i hi => ?_)
  simp at hi ⊢
  omega)
 have B4 := yH (B3.out.tch T4.out HAp.out.1)
 have R4 := yH (show w4.rangeAt w.heap.size 0 (keyL K) by have := B4.out.range; rwa [toArr] at this)
 obtain ⟨bg, hbg⟩ : ∃ b, b = turnG E K n := ⟨_, rfl⟩
 rw [← hbg] at c7
 have HG := yH hbg
 clear hbg
 cases bg
 ·go_wp2_with fail
  go_ret
  unfold WantPost wantX
  rw [← HG.out]
  exact ⟨rfl, H4.out, HAp.out.2 _ (Tch.refl _ _)⟩
 ·go_wp2_with fail
  refine wp_region_qs (fun j0 w' => j0 ≤ 0 → w'.cell? ⟨xi, 0, none⟩ = some (.map (some bx)) ∧ w'.rangeAt w.heap.size 0 (keyL K)) [(0, some 1), (1, some 1), (2, some 1), (3, some 0), (4, some 0), (5, none)] (by kernel_rfl) (by kernel_rfl) (by kernel_rfl) (by kernel_rfl) (by kernel_rfl) (fun _ _ _ _ _ h => h) (fun _ => ⟨H4.out.drew.cell, R4.out⟩) ?_
  simp only [yD, yE, yF, yG]
  (repeat (first | ((first | (refine qs_row (by rfl) 179 (.tmp 4) rfl w.heap.size 0 rfl (keyL K) _ (fun j w' _ h2 h => (h h2).2) Tryz.underlying179 rfl (keyL_info K) ?_) | (refine qs_mid (v := .map (some bx)) (by rfl) ?_ ?_; rotate_left 1; (· (intro j w' h1 h2 h; have h3 := (h h2).1; clear h; go_simp; done)))); simp only [Act.put, yA, yB, yC]) | (refine qs_mid (v := ?_) (by rfl) ?_ ?_; rotate_left 1; (· (intro j w' hj1 hj2 hS; go_simp; (try (simp only [↓IntWalk.iteOmega]; go_simp)); (try simp (disch := omega) only [IntWalk.i64_in]); try with_reducible rfl)); simp only [Act.put, yA, yB, yC]) | (refine qs_skip (by rfl) ?_; simp only [Act.put, yA, yB, yC])))
  refine qs_act ?_
  go_wp2_with ((with_reducible show wpList _ _ _ (_ :: _) _ _); refine wpl_mdel rfl 300 (.tmp 17) (.tmp 18) rfl keyed_key Tryz.underlying300 H4.out.drew.map rfl K rfl (klK_inj' K) (keyOf_key K) ?_; intro w7 hm hg; have M7 := yH hm; have G7 := yH hg; clear hm hg)
  refine ⟨fun h => absurd h (by omega), ?_⟩
  refine qs_nil ?_
  go_wp2_with fail
  go_ret
  unfold WantPost wantX
  rw [← HG.out]
  have G7' : w4.grownBy w7 (some bx) := ⟨G7.out.os, G7.out.tape, G7.out.output, G7.out.size, G7.out.block⟩
  exact ⟨rfl, H4.out.put M7.out G7', HAp.out.2 _ (tch_own G7')⟩
end Go.Proofs.YtffalfacakdhkaaGreatDoor
