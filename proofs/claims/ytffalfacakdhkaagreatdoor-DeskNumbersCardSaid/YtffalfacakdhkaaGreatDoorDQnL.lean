/-
  what this claim needs of: QnL, QnL2 (written by cut.py).
-/
import Derived.Test.YtffalfacakdhkaaGreatDoorDMem
import Derived.Test.YtffalfacakdhkaaGreatDoorDStW
namespace Go.Proofs.YtffalfacakdhkaaGreatDoor
open Go.RowKit
set_option linter.unusedVariables false
set_option linter.unusedSimpArgs false

structure Geo where
 (vir segs seg uni jou : Int)
def geC (g : Geo) : List Value := [.int .i64 g.vir, .int .i64 g.segs, .int .i64 g.seg, .int .i64 g.uni, .int .i64 g.jou]
def rI (x : Int) : Prop := -9223372036854775808 ≤ x ∧ x ≤ 9223372036854775807
def GeB (g : Geo) : Prop := rI g.vir ∧ rI g.segs ∧ rI g.seg ∧ rI g.uni ∧ rI g.jou
theorem geC_info (g : Geo) : (Tryz.prog.info? 66).map (·.size) = some (geC g).length := by show _ = some 5; kernel_rfl
def FieldsP (g : Geo) : Prop := (8 ≤ g.vir ∧ g.vir ≤ 4096) ∧ g.vir % 8 = 0 ∧ (2 ≤ g.segs ∧ g.segs ≤ 256) ∧ (1 ≤ g.uni ∧ g.uni ≤ 16) ∧ (16 ≤ g.seg ∧ 2 * (8 * g.uni + 1) ≤ g.seg ∧ g.seg ≤ 1024) ∧ (8 ≤ g.jou ∧ g.jou ≤ 64)
instance (g : Geo) : Decidable (FieldsP g) := by unfold FieldsP; exact inferInstance
def pagesI (g : Geo) : Int := 2 + (g.segs * g.seg + 9 * (g.vir / 8) + 8) / 4
def secsI (g : Geo) : Int := 2 + 2 * g.jou + 4 * pagesI g + g.segs * g.seg
def RightP (g : Geo) : Prop := FieldsP g ∧ secsI g ≤ 262144
instance (g : Geo) : Decidable (RightP g) := by unfold RightP; exact inferInstance
theorem FieldsP.prod {g : Geo} (h : FieldsP g) : 32 ≤ g.segs * g.seg ∧ g.segs * g.seg ≤ 262144 := by
 obtain ⟨_, _, ⟨a1, a2⟩, _, ⟨b1, _, b2⟩, _⟩ := h
 have h1 := Int.mul_le_mul a1 b1 (by omega) (by omega)
 have h2 := Int.mul_le_mul a2 b2 (by omega) (by omega)
 omega
theorem FieldsP.pages {g : Geo} (h : FieldsP g) : 14 ≤ pagesI g ∧ pagesI g ≤ 66700 := by
 have h1 := h.prod
 have h2 := h.1
 unfold pagesI
 omega
theorem FieldsP.secs {g : Geo} (h : FieldsP g) : 100 ≤ secsI g ∧ secsI g ≤ 530000 := by
 have h1 := h.prod
 have h2 := h.pages
 obtain ⟨_, _, _, _, _, h3⟩ := h
 unfold secsI
 omega
section
variable {w : World} {g : Geo}
theorem pages_any (hf : FieldsP g) : Calls Tryz.prog 202 #[.agg (geC g).toArray] w fun e w' => e = .returned (.int .i64 (pagesI g)) ∧ Below w.heap.size w w' := by
 have H := yH hf
 obtain ⟨p, hp⟩ : ∃ p, p = g.segs * g.seg := ⟨_, rfl⟩
 have HP := yH hp
 have h1 := hf.prod
 have h2 := hf.1
 rw [← hp] at h1
 have hq : 1 ≤ g.vir / 8 ∧ g.vir / 8 ≤ 512 := by omega
 have e1 : g.vir.tdiv 8 = g.vir / 8 := Int.tdiv_eq_ediv_of_nonneg (by omega)
 have e2 : (p + 9 * (g.vir / 8) + 8).tdiv 4 = (p + 9 * (g.vir / 8) + 8) / 4 := Int.tdiv_eq_ediv_of_nonneg (by omega)
 have hr : 0 ≤ (p + 9 * (g.vir / 8) + 8) / 4 ∧ (p + 9 * (g.vir / 8) + 8) / 4 ≤ 66700 := by omega
 have ep : IntKind.i64.wrap (g.segs * g.seg) = p := by rw [← hp]; exact IntWalk.i64_in _ (by omega)
 have HR := yH (show pagesI g = 2 + (p + 9 * (g.vir / 8) + 8) / 4 by rw [hp]; rfl)
 clear hp hf
 go_enter Tryz.func202, Tryz.ntmps202
 go_upto_region 1 with
  (refine wpl_box rfl 66 (.tmp 0) rfl _ rfl ?_; intro w1 hk hg hz; have K := yH hk; have L := yH (bl_n (Below.refl _ _) hg); clear hk hg hz)
 have c0 := K.out.cell (i := 0) (v := .int .i64 g.vir) rfl
 have c1 := K.out.cell (i := 1) (v := .int .i64 g.segs) rfl
 have c2 := K.out.cell (i := 2) (v := .int .i64 g.seg) rfl
 have c3 := K.out.cell (i := 3) (v := .int .i64 g.uni) rfl
 have c4 := K.out.cell (i := 4) (v := .int .i64 g.jou) rfl
 go_wp2_with fail
 go_ret
 rw [HR.out]
 exact ⟨rfl, L.out⟩

theorem idx_arrP {P : Program} (t e : TypeId) (n : Nat) (cs : Array Value) (k : IntKind) (i : Nat) (v : Value) (h : P.underlying t = some (.array n e)) (hs : ∀ w, (sizeOf e).run P w = .ok 1 w) (ha : ∀ w, (isAgg e).run P w = .ok false w) (hn : i < n) (hv : cs[i]? = some v) (w : World) :
  (Instr.index t (.agg cs) (.int k (i : Int))).run P w = .ok v w := by
 have h1 : (0 : Int) ≤ (i : Int) ∧ (i : Int) < (n : Int) := by omega
 simp [Instr.index, run_underlying h, asIntOf, h1, go_sem, part]
 rw [if_pos hn, hs]
 simp only [Result.andThen]
 rw [ha]
 simp [hv, go_sem]
def planC (a b c d : Int) : Array Value := #[.int .i64 a, .int .i64 b, .int .i64 c, .int .i64 d]
theorem idx4 (a b c d : Int) (i : Nat) (I x : Int) (hI : I = (i : Int)) (hi : i < 4) (hx : (planC a b c d)[i]? = some (.int .i64 x)) (w : World) : (Instr.index 161 (.agg (planC a b c d)) (.int .i64 I)).run Tryz.prog w = .ok (.int .i64 x) w := by
 subst hI
 exact idx_arrP _ _ 4 _ _ i _ Tryz.underlying161 Tryz.sizeOf3 Tryz.isAgg3 hi hx w
theorem idx3 (a b c : Int) (i : Nat) (I x : Int) (hI : I = (i : Int)) (hi : i < 3) (hx : (#[Value.int .i64 a, .int .i64 b, .int .i64 c] : Array Value)[i]? = some (.int .i64 x)) (w : World) : (Instr.index 307 (.agg #[Value.int .i64 a, .int .i64 b, .int .i64 c]) (.int .i64 I)).run Tryz.prog w = .ok (.int .i64 x) w := by
 subst hI
 exact idx_arrP _ _ 3 _ _ i _ Tryz.underlying307 Tryz.sizeOf3 Tryz.isAgg3 hi hx w
def GeS (b : Nat) (g : Geo) (w' : World) : Prop := w'.rangeAt b 0 (geC g) ∧ w'.cell? ⟨b, 0, none⟩ = some (.int .i64 g.vir) ∧ w'.cell? ⟨b, 1, none⟩ = some (.int .i64 g.segs) ∧ w'.cell? ⟨b, 2, none⟩ = some (.int .i64 g.seg) ∧ w'.cell? ⟨b, 3, none⟩ = some (.int .i64 g.uni) ∧ w'.cell? ⟨b, 4, none⟩ = some (.int .i64 g.jou)
theorem GeS.of {b : Nat} {w' : World} (h : Blk w' b 66 (geC g).toArray) : GeS b g w' := ⟨by have := h.range; simpa using this, h.cell (i := 0) rfl, h.cell (i := 1) rfl, h.cell (i := 2) rfl, h.cell (i := 3) rfl, h.cell (i := 4) rfl⟩
def PlanPost (g : Geo) (w : World) (e : Ending) (w' : World) : Prop := e = .returned (.agg (planC 2 (2 + 2 * g.jou) (2 + 2 * g.jou + 4 * pagesI g) (secsI g))) ∧ Below w.heap.size w w'
def PlI (w : World) (rb ab : Nat) (b1 b2 b3 : Int) (k : Nat) (iv av : Value) (wr : World) : Prop := ∃ i : Nat, iv = .int .i64 (i : Int) ∧ i ≤ 3 ∧ i + k ≤ 3 ∧ 3 ≤ i + k ∧ Below w.heap.size w wr ∧ Blk wr rb 161 (planC 0 0 0 0) ∧
 ((i = 0 ∧ av = .int .i64 2 ∧ Blk wr ab 161 (planC 0 0 0 0)) ∨ (i = 1 ∧ av = .int .i64 b1 ∧ Blk wr ab 161 (planC 2 0 0 0)) ∨ (i = 2 ∧ av = .int .i64 b2 ∧ Blk wr ab 161 (planC 2 b1 0 0)) ∨ (i = 3 ∧ av = .int .i64 b3 ∧ Blk wr ab 161 (planC 2 b1 b2 0)))
set_option maxRecDepth 100000 in
theorem plan_any (hf : FieldsP g) : Calls Tryz.prog 136 #[.agg (geC g).toArray] w (PlanPost g w) := by
 have H := yH hf
 have hj := hf.2.2.2.2.2
 have hpg := hf.pages
 obtain ⟨p, hp⟩ : ∃ p, p = g.segs * g.seg := ⟨_, rfl⟩
 have hpp := hf.prod
 rw [← hp] at hpp
 have ep : IntKind.i64.wrap (g.segs * g.seg) = p := by rw [← hp]; exact IntWalk.i64_in _ (by omega)
 have ej : IntKind.i64.wrap (g.jou * 2) = 2 * g.jou := by rw [Int.mul_comm]; exact IntWalk.i64_in _ (by omega)
 have eg : IntKind.i64.wrap (4 * pagesI g) = 4 * pagesI g := IntWalk.i64_in _ (by omega)
 have HS := yH (show secsI g = 2 + 2 * g.jou + 4 * pagesI g + p by rw [hp]; rfl)
 have HP := yH (fun W => pages_any (w := W) hf)
 clear hp hf
 go_enter Tryz.func136, Tryz.ntmps136
 go_upto_region 3 with (first
  | (refine wpl_alloc_zero rfl 161 (by rfl) Tryz.zeroValue161 ?_; intro w3 hk hg hz; have R3 := yH (R2.out.grown hg (by simp)); have A3 := yH hk; have K3 := yH (K2.out.grown hg (by simp)); have L3 := yH (bl_n L2.out hg); clear hk hg hz; simp only [Act.put, yA, yB, yC])
  | (refine wpl_alloc_zero rfl 161 (by rfl) Tryz.zeroValue161 ?_; intro w2 hk hg hz; have R2 := yH hk; have K2 := yH (K.out.grown hg (by simp)); have L2 := yH (bl_n L.out hg); have N2 := yH (show w.heap.size < w1.heap.size ∧ w1.heap.size < w2.heap.size by have := N1.out; omega); clear hk hg hz; simp only [Act.put, yA, yB, yC])
  | (refine wpl_box rfl 66 (.tmp 0) rfl _ rfl ?_; intro w1 hk hg hz; have K := yH hk; have L := yH (bl_n (Below.refl _ _) hg); have N1 := yH (show w.heap.size < w1.heap.size by omega); clear hk hg hz)
  )
 have NN := N2.out
 generalize w1.heap.size = rb at *
 generalize w2.heap.size = ab at *
 refine wp_region_qs (fun _ w' => w'.rangeAt w.heap.size 0 (geC g) ∧ w'.cell? ⟨w.heap.size, 0, none⟩ = some (.int .i64 g.vir) ∧ w'.cell? ⟨w.heap.size, 1, none⟩ = some (.int .i64 g.segs) ∧ w'.cell? ⟨w.heap.size, 2, none⟩ = some (.int .i64 g.seg) ∧ w'.cell? ⟨w.heap.size, 3, none⟩ = some (.int .i64 g.uni) ∧ w'.cell? ⟨w.heap.size, 4, none⟩ = some (.int .i64 g.jou)) [(0, some 1), (1, some 1), (2, some 1), (3, some 0), (6, some 1), (7, some 1), (8, some 1), (9, some 1), (10, some 1), (12, some 1), (4, none), (5, some 1), (11, some 1)] (by kernel_rfl) (by kernel_rfl) (by kernel_rfl) (by kernel_rfl) (by kernel_rfl) (fun _ _ _ _ _ h => h) (GeS.of K3.out.drew) ?_
 simp only [yD, yE, yF, yG]
 (repeat (first | ((refine qs_row (by rfl) 66 (.tmp 1) (by rfl) w.heap.size 0 (by rfl) (geC g) _ (fun j w' _ h2 h => h.1) Tryz.underlying66 rfl (geC_info _) ?_); simp only [Act.put, yA, yB, yC]) | (refine qs_mid (v := ?_) (by rfl) ?_ ?_; rotate_left 1; (· (intro j w' hj1 hj2 hS; go_simp; (try (simp only [↓IntWalk.iteOmega]; go_simp)); (try simp (disch := omega) only [IntWalk.i64_in]); try with_reducible rfl)); simp only [Act.put, yA, yB, yC]) | (refine qs_skip (by rfl) ?_; simp only [Act.put, yA, yB, yC])))
 refine qs_act ?_
 go_wp2_with (go_at_call 202; refine (HP.out _).mono ?_; rintro e w4 ⟨rfl, hb⟩; have L4 := yH (below_chain L3.out.drew hb); have K4 := yH (K3.out.drew.below hb K3.out.lt); have A4 := yH (A3.out.drew.below hb A3.out.lt); have R4 := yH (R3.out.drew.below hb R3.out.lt); clear hb)
 refine ⟨GeS.of K4.out, ?_⟩
 (repeat (first | ((refine qs_row (by rfl) 66 (.tmp 1) (by rfl) w.heap.size 0 (by rfl) (geC g) _ (fun j w' _ h2 h => h.1) Tryz.underlying66 rfl (geC_info _) ?_); simp only [Act.put, yA, yB, yC]) | (refine qs_mid (v := ?_) (by rfl) ?_ ?_; rotate_left 1; (· (intro j w' hj1 hj2 hS; go_simp; (try (simp only [↓IntWalk.iteOmega]; go_simp)); (try simp (disch := omega) only [IntWalk.i64_in]); try with_reducible rfl)); simp only [Act.put, yA, yB, yC]) | (refine qs_skip (by rfl) ?_; simp only [Act.put, yA, yB, yC])))
 refine qs_nil ?_
 go_upto_region 4 with fail
 obtain ⟨b1, hb1⟩ : ∃ b1, b1 = 2 + 2 * g.jou := ⟨_, rfl⟩
 obtain ⟨b2, hb2⟩ : ∃ b2, b2 = 2 + 2 * g.jou + 4 * pagesI g := ⟨_, rfl⟩
 have HB := yH (And.intro hb1 (And.intro hb2 (show secsI g = b2 + p by rw [HS.out, hb2])))
 have hlim : 1 ≤ b1 ∧ b1 ≤ 1000 ∧ 1 ≤ b2 ∧ b2 ≤ 300000 ∧ b1 - 2 = 2 * g.jou ∧ b2 - b1 = 4 * pagesI g := by omega
 have HL := yH hlim
 have HLJ := yH (And.intro hj (And.intro hpg hpp))
 clear hlim hb1 hb2 ej eg ep hj hpg hpp K3 A3 R3 R2 K2 K L2 L L3 HP
 go_loopg [19, 4] 3 (fun k iv av wr => PlI w rb ab b1 b2 (b2 + p) k iv av wr)
 case atStart => exact ⟨0, rfl, by omega, by omega, by omega, L4.out, R4.out, .inl ⟨rfl, rfl, A4.out⟩⟩
 case round =>
  obtain ⟨q, rfl, q1, q2, q3, hL, hR, hA⟩ := hrel
  have LL := yH hL
  have RR := yH hR
  clear hL hR L4 R4 A4
  rcases hA with ⟨rfl, rfl, hA⟩ | ⟨rfl, rfl, hA⟩ | ⟨rfl, rfl, hA⟩ | ⟨rfl, rfl, hA⟩
  ·have AA := yH hA
   clear hA
   have cA := AA.out.cell (i := 0) (v := .int .i64 0) rfl
   have fA := AA.out.free 0
   have ix := idx3 (2 * g.jou) (4 * pagesI g) p 0 0 (2 * g.jou) rfl (by omega) rfl
   have hs : IntKind.i64.wrap (2 + 2 * g.jou) = b1 := by have := HB.out; have h2 := HLJ.out; have h3 : 2 + 2 * g.jou = b1 := (by omega); rw [h3]; exact IntWalk.i64_in _ (by omega)
   go_wp2_with fail
   go_roundg (gk - 1)
   case measure => omega
   case rel => exact ⟨1, rfl, by omega, by omega, by omega, LL.out.setCell (by show w.heap.size ≤ ab; omega) _, RR.out.else_ (by show rb ≠ ab; omega) _, .inr (.inl ⟨rfl, by first | rfl | (congr 1; have := HB.out; omega), AA.out.put 0 _⟩)⟩
  ·have AA := yH hA
   clear hA
   have cA := AA.out.cell (i := 1) (v := .int .i64 0) rfl
   have fA := AA.out.free 1
   have ix := idx3 (2 * g.jou) (4 * pagesI g) p 1 1 (4 * pagesI g) rfl (by omega) rfl
   have hs : IntKind.i64.wrap (b1 + 4 * pagesI g) = b2 := by have := HB.out; have h2 := HLJ.out; have h3 : b1 + 4 * pagesI g = b2 := (by omega); rw [h3]; exact IntWalk.i64_in _ (by omega)
   go_wp2_with fail
   go_roundg (gk - 1)
   case measure => omega
   case rel => exact ⟨2, rfl, by omega, by omega, by omega, LL.out.setCell (by show w.heap.size ≤ ab; omega) _, RR.out.else_ (by show rb ≠ ab; omega) _, .inr (.inr (.inl ⟨rfl, by first | rfl | (congr 1; have := HB.out; omega), AA.out.put 1 _⟩))⟩
  ·have AA := yH hA
   clear hA
   have cA := AA.out.cell (i := 2) (v := .int .i64 0) rfl
   have fA := AA.out.free 2
   have ix := idx3 (2 * g.jou) (4 * pagesI g) p 2 2 (p) rfl (by omega) rfl
   have hs : IntKind.i64.wrap (b2 + p) = (b2 + p) := by have := HB.out; have h2 := HLJ.out; have h3 : b2 + p = (b2 + p) := (by omega); rw [h3]; exact IntWalk.i64_in _ (by omega)
   go_wp2_with fail
   go_roundg (gk - 1)
   case measure => omega
   case rel => exact ⟨3, rfl, by omega, by omega, by omega, LL.out.setCell (by show w.heap.size ≤ ab; omega) _, RR.out.else_ (by show rb ≠ ab; omega) _, .inr (.inr (.inr ⟨rfl, by first | rfl | (congr 1; have := HB.out; omega), AA.out.put 2 _⟩))⟩
  ·have AA := yH hA
   clear hA
   have cA := AA.out.cell (i := 3) (v := .int .i64 0) rfl
   have fA := AA.out.free 3
   go_upto_region 10 with fail
   obtain ⟨wa, hwa⟩ : ∃ v, v = wr.setCell ⟨ab, 3, none⟩ (Value.int IntKind.i64 (b2 + p)) := ⟨_, rfl⟩
   have AB := yH (show Blk wa ab 161 (planC 2 b1 b2 (b2 + p)) by rw [hwa]; exact AA.out.put 3 _)
   have RB := yH (show Blk wa rb 161 (planC 0 0 0 0) by rw [hwa]; exact RR.out.else_ (by show rb ≠ ab; omega) _)
   have LB := yH (show Below w.heap.size w wa by rw [hwa]; exact LL.out.setCell (by show w.heap.size ≤ ab; omega) _)
   rw [← hwa]
   clear hwa AA RR LL cA fA
   go_wp2_with (first
    | (refine wpList_load_mid rfl 161 (.tmp 3) (by rfl) ab 0 (by rfl) (planC 2 b1 b2 (b2 + p)).toList _ AB.out.range Tryz.underlying161 rfl (by kernel_rfl) ?_; simp only [Act.put, yA, yB, yC])
    | (refine wpl_over rfl 161 (.tmp 2) (.tmp 32) (by rfl) rb (planC 2 b1 b2 (b2 + p)).toList (by rfl) (by rfl) _ _ RB.out (by kernel_rfl) (by rfl) (by simp [planC, Value.oneCell']) ?_; intro wf hk hg hz; have RF := yH hk; have LF := yH (bl_g LB.out hg (by omega)); clear hk hg hz; simp only [Act.put, yA, yB, yC]))
   (try simp only [Exit.inBlock, Exit.then]); refine bodyPost_ret (results_blk (by rfl) _ rb (by rfl) 161 _ RF.out _ Tryz.underlying161 rfl 4 (by kernel_rfl) (by rfl)) rfl ?_
   exact ⟨by rw [HB.out.2.2, ← HB.out.2.1, ← HB.out.1], LF.out⟩
theorem lfrom_any (n a b : Int) (w : World) : Calls Tryz.prog 135 #[.int .i64 n, .int .i64 a, .int .i64 b] w fun e w' => e = .returned (.bool (decide (a ≤ n ∧ n ≤ b))) ∧ w = w' := by
 by_cases h1 : a ≤ n
 ·by_cases h2 : n ≤ b
  ·rw [decide_eq_true (And.intro h1 h2)]
   go_enter Tryz.func135, Tryz.ntmps135
   go_wp2
   go_ret
   simp [h1, h2]
  ·rw [decide_eq_false (fun h => h2 h.2)]
   go_enter Tryz.func135, Tryz.ntmps135
   go_wp2
   go_ret
   simp [h1, h2]
 ·rw [decide_eq_false (fun h => h1 h.1)]
  go_enter Tryz.func135, Tryz.ntmps135
  go_wp2
  go_ret
  simp [h1]
set_option maxRecDepth 100000 in
theorem right_any (hg : GeB g) : Calls Tryz.prog 74 #[.agg (geC g).toArray] w fun e w' => e = .returned (.bool (decide (RightP g))) ∧ Below w.heap.size w w' := by
 have HG := yH hg
 have r0 := hg.1
 unfold rI at r0
 clear hg
 obtain ⟨b1, h1⟩ : ∃ b, b = decide (8 ≤ g.vir ∧ g.vir ≤ 4096) := ⟨_, rfl⟩
 obtain ⟨b3, h3⟩ : ∃ b, b = decide (2 ≤ g.segs ∧ g.segs ≤ 256) := ⟨_, rfl⟩
 obtain ⟨b4, h4⟩ : ∃ b, b = decide (1 ≤ g.uni ∧ g.uni ≤ 16) := ⟨_, rfl⟩
 obtain ⟨b6, h6⟩ : ∃ b, b = decide (8 ≤ g.jou ∧ g.jou ≤ 64) := ⟨_, rfl⟩
 have C1 := yH (fun W => lfrom_any g.vir 8 4096 W)
 have C3 := yH (fun W => lfrom_any g.segs 2 256 W)
 have C4 := yH (fun W => lfrom_any g.uni 1 16 W)
 have C6 := yH (fun W => lfrom_any g.jou 8 64 W)
 rw [← h1] at C1
 rw [← h3] at C3
 rw [← h4] at C4
 rw [← h6] at C6
 have H1 := yH h1
 have H3 := yH h3
 have H4 := yH h4
 have H6 := yH h6
 clear h1 h3 h4 h6 r0
 go_enter Tryz.func74, Tryz.ntmps74
 go_upto_region 1 with
  (refine wpl_box rfl 66 (.tmp 0) rfl _ rfl ?_; intro w1 hk hg hz; have K := yH hk; have L := yH (bl_n (Below.refl _ _) hg); clear hk hg hz)
 have c0 := K.out.cell (i := 0) (v := .int .i64 g.vir) rfl
 have c1 := K.out.cell (i := 1) (v := .int .i64 g.segs) rfl
 have c2 := K.out.cell (i := 2) (v := .int .i64 g.seg) rfl
 have c3 := K.out.cell (i := 3) (v := .int .i64 g.uni) rfl
 have c4 := K.out.cell (i := 4) (v := .int .i64 g.jou) rfl
 go_wp2_with fail
 refine (C1.out _).mono ?_
 rintro e w2 ⟨rfl, rfl⟩
 cases b1
 ·have NO := yH (show ¬ RightP g from fun h => by have := of_decide_eq_false H1.out.symm; exact this h.1.1)
  go_wp2_with fail
  go_ret
  rw [decide_eq_false (fun h => by have := NO.out; exact this h)]
  exact ⟨rfl, L.out⟩
 have V := yH (of_decide_eq_true H1.out.symm)
 have em : g.vir.tmod 8 = g.vir % 8 := Int.tmod_eq_emod_of_nonneg (by have := V.out; omega)
 by_cases hm : g.vir % 8 = 0
 case neg =>
  have NO := yH (show ¬ RightP g from fun h => hm h.1.2.1)
  have hmb : (g.vir % 8 == 0) = false := beq_eq_false_iff_ne.2 hm
  go_wp2_with fail
  go_ret
  rw [decide_eq_false (fun h => by have := NO.out; exact this h)]
  exact ⟨rfl, L.out⟩
 have HM := yH hm
 go_wp2_with fail
 refine (C3.out _).mono ?_
 rintro e w2 ⟨rfl, rfl⟩
 cases b3
 ·have NO := yH (show ¬ RightP g from fun h => by have := of_decide_eq_false H3.out.symm; exact this h.1.2.2.1)
  go_wp2_with fail
  go_ret
  rw [decide_eq_false (fun h => by have := NO.out; exact this h)]
  exact ⟨rfl, L.out⟩
 go_wp2_with fail
 refine (C4.out _).mono ?_
 rintro e w2 ⟨rfl, rfl⟩
 cases b4
 ·have NO := yH (show ¬ RightP g from fun h => by have := of_decide_eq_false H4.out.symm; exact this h.1.2.2.2.1)
  go_wp2_with fail
  go_ret
  rw [decide_eq_false (fun h => by have := NO.out; exact this h)]
  exact ⟨rfl, L.out⟩
 have U := of_decide_eq_true H4.out.symm
 have UU := yH U
 have em1 : IntKind.i64.wrap (2 * (8 * g.uni + 1)) = 2 * (8 * g.uni + 1) := IntWalk.i64_in _ (by omega)
 have C5 := yH (fun W => lfrom_any g.seg (2 * (8 * g.uni + 1)) 1024 W)
 obtain ⟨b5, h5⟩ : ∃ b, b = decide (2 * (8 * g.uni + 1) ≤ g.seg ∧ g.seg ≤ 1024) := ⟨_, rfl⟩
 rw [← h5] at C5
 have H5 := yH (show b5 = true ↔ (16 ≤ g.seg ∧ 2 * (8 * g.uni + 1) ≤ g.seg ∧ g.seg ≤ 1024) by rw [h5, decide_eq_true_iff]; constructor <;> (intro h; omega))
 clear h5
 go_wp2_with fail
 refine (C5.out _).mono ?_
 rintro e w2 ⟨rfl, rfl⟩
 cases b5
 ·have NO := yH (show ¬ RightP g from fun h => by have := H5.out.2 h.1.2.2.2.2.1; cases this)
  go_wp2_with fail
  go_ret
  rw [decide_eq_false (fun h => by have := NO.out; exact this h)]
  exact ⟨rfl, L.out⟩
 have S5 := yH (H5.out.1 rfl)
 go_wp2_with fail
 refine (C6.out _).mono ?_
 rintro e w2 ⟨rfl, rfl⟩
 cases b6
 ·have NO := yH (show ¬ RightP g from fun h => by have := of_decide_eq_false H6.out.symm; exact this h.1.2.2.2.2.2)
  go_wp2_with fail
  go_ret
  rw [decide_eq_false (fun h => by have := NO.out; exact this h)]
  exact ⟨rfl, L.out⟩
 have F := yH (show FieldsP g from ⟨V.out, HM.out, of_decide_eq_true H3.out.symm, UU.out, S5.out, of_decide_eq_true H6.out.symm⟩)
 have RG := K.out.range
 rw [List.toList_toArray] at RG
 have HS := F.out.secs
 have ix := idx4 2 (2 + 2 * g.jou) (2 + 2 * g.jou + 4 * pagesI g) (secsI g) 3 3 (secsI g) rfl (by omega) rfl
 clear C1 C3 C4 C5 C6 em1
 go_wp2_with (first
  | (refine wpList_load_mid rfl 66 (.tmp 1) (by rfl) w.heap.size 0 (by rfl) (geC g) _ RG Tryz.underlying66 rfl (geC_info g) ?_; simp only [Act.put, yA, yB, yC])
  | (go_at_call 136; refine (plan_any F.out).mono ?_; rintro e w5 ⟨rfl, hb⟩; have L5 := yH (below_chain L.out hb); clear hb))
 go_ret
 have e1 : decide (secsI g ≤ 262144) = decide (RightP g) := by
  by_cases h : secsI g ≤ 262144
  ·rw [decide_eq_true h, decide_eq_true (show RightP g from ⟨F.out, h⟩)]
  ·rw [decide_eq_false h, decide_eq_false (fun k : RightP g => h k.2)]
 exact ⟨by rw [← e1]; rfl, L5.out⟩
end
end Go.Proofs.YtffalfacakdhkaaGreatDoor
namespace Go.Proofs.YtffalfacakdhkaaGreatDoor
open Go.RowKit
set_option linter.unusedVariables false
set_option linter.unusedSimpArgs false
section
variable {w : World} {g : Geo}
def secsG (g : Geo) : Int := if RightP g then secsI g else 0
def pagesG (g : Geo) : Int := if RightP g then pagesI g else 0
theorem secs_any (hg : GeB g) : Calls Tryz.prog 75 #[.agg (geC g).toArray] w fun e w' => e = .returned (.int .i64 (secsG g)) ∧ Below w.heap.size w w' := by
 have HG := yH hg
 clear hg
 go_enter Tryz.func75, Tryz.ntmps75
 go_upto_region 1 with
  (refine wpl_box rfl 66 (.tmp 0) rfl _ rfl ?_; intro w1 hk hg hz; have K := yH hk; have L := yH (bl_n (Below.refl _ _) hg); clear hk hg hz)
 have RG := K.out.range
 rw [List.toList_toArray] at RG
 by_cases h : RightP g
 ·have HR := yH h
  clear h
  have hdt : decide (RightP g) = true := decide_eq_true HR.out
  have HS := HR.out.1.secs
  have ix := idx4 2 (2 + 2 * g.jou) (2 + 2 * g.jou + 4 * pagesI g) (secsI g) 3 3 (secsI g) rfl (by omega) rfl
  go_wp2_with (first
   | (refine wpList_load_mid rfl 66 (.tmp 1) (by rfl) w.heap.size 0 (by rfl) (geC g) _ RG2.out Tryz.underlying66 rfl (geC_info g) ?_; simp only [Act.put, yA, yB, yC])
   | (refine wpList_load_mid rfl 66 (.tmp 1) (by rfl) w.heap.size 0 (by rfl) (geC g) _ RG Tryz.underlying66 rfl (geC_info g) ?_; simp only [Act.put, yA, yB, yC])
   | (go_at_call 136; refine (plan_any HR.out.1).mono ?_; rintro e w5 ⟨rfl, hb⟩; have L5 := yH (below_chain L2.out hb); clear hb)
   | (go_at_call 74; refine (right_any HG.out).mono ?_; rewrite [hdt]; rintro e w2 ⟨rfl, hb⟩; have L2 := yH (below_chain L.out hb); have K2 := yH (K.out.below hb K.out.lt); have RG2 := yH (show w2.rangeAt w.heap.size 0 (geC g) by have := K2.out.range; rwa [List.toList_toArray] at this); clear hb))
  go_ret
  exact ⟨by unfold secsG; rw [if_pos HR.out]; rfl, L5.out⟩
 ·have HR := yH h
  clear h
  have hdt : decide (RightP g) = false := decide_eq_false HR.out
  go_wp2_with (first
   | (refine wpList_load_mid rfl 66 (.tmp 1) (by rfl) w.heap.size 0 (by rfl) (geC g) _ RG Tryz.underlying66 rfl (geC_info g) ?_; simp only [Act.put, yA, yB, yC])
   | (go_at_call 74; refine (right_any HG.out).mono ?_; rewrite [hdt]; rintro e w2 ⟨rfl, hb⟩; have L2 := yH (below_chain L.out hb); clear hb))
  go_ret
  exact ⟨by unfold secsG; rw [if_neg HR.out]; rfl, L2.out⟩
theorem pagesG_any (hg : GeB g) : Calls Tryz.prog 277 #[.agg (geC g).toArray] w fun e w' => e = .returned (.int .i64 (pagesG g)) ∧ Below w.heap.size w w' := by
 have HG := yH hg
 clear hg
 go_enter Tryz.func277, Tryz.ntmps277
 go_upto_region 1 with
  (refine wpl_box rfl 66 (.tmp 0) rfl _ rfl ?_; intro w1 hk hg hz; have K := yH hk; have L := yH (bl_n (Below.refl _ _) hg); clear hk hg hz)
 have RG := K.out.range
 rw [List.toList_toArray] at RG
 by_cases h : RightP g
 ·have HR := yH h
  clear h
  have hdt : decide (RightP g) = true := decide_eq_true HR.out
  go_wp2_with (first
   | (refine wpList_load_mid rfl 66 (.tmp 1) (by rfl) w.heap.size 0 (by rfl) (geC g) _ RG2.out Tryz.underlying66 rfl (geC_info g) ?_; simp only [Act.put, yA, yB, yC])
   | (refine wpList_load_mid rfl 66 (.tmp 1) (by rfl) w.heap.size 0 (by rfl) (geC g) _ RG Tryz.underlying66 rfl (geC_info g) ?_; simp only [Act.put, yA, yB, yC])
   | (go_at_call 202; refine (pages_any HR.out.1).mono ?_; rintro e w5 ⟨rfl, hb⟩; have L5 := yH (below_chain L2.out hb); clear hb)
   | (go_at_call 74; refine (right_any HG.out).mono ?_; rewrite [hdt]; rintro e w2 ⟨rfl, hb⟩; have L2 := yH (below_chain L.out hb); have K2 := yH (K.out.below hb K.out.lt); have RG2 := yH (show w2.rangeAt w.heap.size 0 (geC g) by have := K2.out.range; rwa [List.toList_toArray] at this); clear hb))
  go_ret
  exact ⟨by unfold pagesG; rw [if_pos HR.out]; rfl, L5.out⟩
 ·have HR := yH h
  clear h
  have hdt : decide (RightP g) = false := decide_eq_false HR.out
  go_wp2_with (first
   | (refine wpList_load_mid rfl 66 (.tmp 1) (by rfl) w.heap.size 0 (by rfl) (geC g) _ RG Tryz.underlying66 rfl (geC_info g) ?_; simp only [Act.put, yA, yB, yC])
   | (go_at_call 74; refine (right_any HG.out).mono ?_; rewrite [hdt]; rintro e w2 ⟨rfl, hb⟩; have L2 := yH (below_chain L.out hb); clear hb))
  go_ret
  exact ⟨by unfold pagesG; rw [if_neg HR.out]; rfl, L2.out⟩
/-- where one of two lies: where all is right. -/
theorem one_any (hg : GeB g) (hr : RightP g) (i : Nat) (hi : i ≤ 1099511627776) (at_ size : Int) (ha : 0 ≤ at_ ∧ at_ ≤ 1000000) (hs : 0 ≤ size ∧ size ≤ 1000000) :
  Calls Tryz.prog 141 #[.agg (geC g).toArray, .int .i64 (i : Int), .int .i64 at_, .int .i64 size] w fun e w' => e = .returned (.int .i64 (at_ + ((i % 2 : Nat) : Int) * size)) ∧ Below w.heap.size w w' := by
 have HG := yH hg
 have HR := yH hr
 have hdt : decide (RightP g) = true := decide_eq_true hr
 have e1 : ¬ (i : Int) < 0 := by omega
 have e2 : (i : Int).tmod 2 = ((i % 2 : Nat) : Int) := by rw [Int.tmod_eq_emod_of_nonneg (by omega)]; omega
 obtain ⟨q, hq⟩ : ∃ q, q = i % 2 := ⟨_, rfl⟩
 have hq2 : q = 0 ∨ q = 1 := by omega
 rw [← hq] at e2 ⊢
 have HI := yH (And.intro hi (And.intro ha hs))
 have e3 : IntKind.i64.wrap ((q : Int) * size) = (q : Int) * size := IntWalk.i64_in _ (by rcases hq2 with rfl | rfl <;> simp <;> omega)
 have e4 : IntKind.i64.wrap (at_ + (q : Int) * size) = at_ + (q : Int) * size := IntWalk.i64_in _ (by rcases hq2 with rfl | rfl <;> simp <;> omega)
 clear hg hr hq hq2 ha hs hi
 go_enter Tryz.func141, Tryz.ntmps141
 go_upto_region 1 with
  (refine wpl_box rfl 66 (.tmp 0) rfl _ rfl ?_; intro w1 hk hg hz; have K := yH hk; have L := yH (bl_n (Below.refl _ _) hg); clear hk hg hz)
 have RG := K.out.range
 rw [List.toList_toArray] at RG
 go_wp2_with (first
  | (refine wpList_load_mid rfl 66 (.tmp 4) (by rfl) w.heap.size 0 (by rfl) (geC g) _ RG Tryz.underlying66 rfl (geC_info g) ?_; simp only [Act.put, yA, yB, yC])
  | (go_at_call 74; refine (right_any HG.out).mono ?_; rewrite [hdt]; rintro e w2 ⟨rfl, hb⟩; have L2 := yH (below_chain L.out hb); clear hb))
 go_ret
 exact ⟨rfl, L2.out⟩
theorem slot_any (hg : GeB g) (hr : RightP g) (i : Nat) (hi : i ≤ 1099511627776) :
  Calls Tryz.prog 78 #[.agg (geC g).toArray, .int .i64 (i : Int)] w fun e w' => e = .returned (.int .i64 ((i % 2 : Nat) : Int)) ∧ Below w.heap.size w w' := by
 have HG := yH hg
 have HR := yH hr
 have HI := yH hi
 clear hg hr hi
 go_enter Tryz.func78, Tryz.ntmps78
 go_upto_region 1 with
  (refine wpl_box rfl 66 (.tmp 0) rfl _ rfl ?_; intro w1 hk hg hz; have K := yH hk; have L := yH (bl_n (Below.refl _ _) hg); clear hk hg hz)
 have RG := K.out.range
 rw [List.toList_toArray] at RG
 go_wp2_with (first
  | (refine wpList_load_mid rfl 66 (.tmp 2) (by rfl) w.heap.size 0 (by rfl) (geC g) _ RG Tryz.underlying66 rfl (geC_info g) ?_; simp only [Act.put, yA, yB, yC])
  | (go_at_call 141; refine (one_any HG.out HR.out i HI.out 0 1 (by omega) (by omega)).mono ?_; rintro e w2 ⟨rfl, hb⟩; have L2 := yH (below_chain L.out hb); clear hb))
 go_ret
 exact ⟨congrArg (fun z => Ending.returned (Value.int .i64 z)) (by omega), L2.out⟩
theorem half_any (hg : GeB g) (hr : RightP g) (i : Nat) (hi : i ≤ 1099511627776) :
  Calls Tryz.prog 164 #[.agg (geC g).toArray, .int .i64 (i : Int)] w fun e w' => e = .returned (.int .i64 (2 + ((i % 2 : Nat) : Int) * g.jou)) ∧ Below w.heap.size w w' := by
 have HG := yH hg
 have HR := yH hr
 have HI := yH hi
 clear hg hr hi
 go_enter Tryz.func164, Tryz.ntmps164
 go_upto_region 1 with
  (refine wpl_box rfl 66 (.tmp 0) rfl _ rfl ?_; intro w1 hk hg hz; have K := yH hk; have L := yH (bl_n (Below.refl _ _) hg); clear hk hg hz)
 have c0 := K.out.cell (i := 0) (v := .int .i64 g.vir) rfl
 have c1 := K.out.cell (i := 1) (v := .int .i64 g.segs) rfl
 have c2 := K.out.cell (i := 2) (v := .int .i64 g.seg) rfl
 have c3 := K.out.cell (i := 3) (v := .int .i64 g.uni) rfl
 have c4 := K.out.cell (i := 4) (v := .int .i64 g.jou) rfl
 have RG := K.out.range
 rw [List.toList_toArray] at RG
 go_wp2_with (first
  | (refine wpList_load_mid rfl 66 (.tmp 2) (by rfl) w.heap.size 0 (by rfl) (geC g) _ RG Tryz.underlying66 rfl (geC_info g) ?_; simp only [Act.put, yA, yB, yC])
  | (go_at_call 141; refine (one_any HG.out HR.out i HI.out 2 g.jou (by omega) (by have := HR.out.1.2.2.2.2.2; omega)).mono ?_; rintro e w2 ⟨rfl, hb⟩; have L2 := yH (below_chain L.out hb); clear hb))
 go_ret
 exact ⟨rfl, L2.out⟩
set_option maxRecDepth 100000 in
theorem area_any (hg : GeB g) (hr : RightP g) (i : Nat) (hi : i ≤ 1099511627776) :
  Calls Tryz.prog 213 #[.agg (geC g).toArray, .int .i64 (i : Int)] w fun e w' => e = .returned (.int .i64 (2 + 2 * g.jou + ((i % 2 : Nat) : Int) * (2 * pagesI g))) ∧ Below w.heap.size w w' := by
 have HG := yH hg
 have HR := yH hr
 have HI := yH hi
 have hp := hr.1.pages
 have hj := hr.1.2.2.2.2.2
 have ix := idx4 2 (2 + 2 * g.jou) (2 + 2 * g.jou + 4 * pagesI g) (secsI g) 1 1 (2 + 2 * g.jou) rfl (by omega) rfl
 have ew : IntKind.i64.wrap (2 * pagesI g) = 2 * pagesI g := IntWalk.i64_in _ (by omega)
 clear hg hr hi
 go_enter Tryz.func213, Tryz.ntmps213
 go_upto_region 1 with
  (refine wpl_box rfl 66 (.tmp 0) rfl _ rfl ?_; intro w1 hk hg hz; have K := yH hk; have L := yH (bl_n (Below.refl _ _) hg); clear hk hg hz)
 refine wp_region_qs (fun _ w' => w'.rangeAt w.heap.size 0 (geC g)) [(0, some 2), (1, some 2), (2, some 2), (5, some 2), (3, none), (4, some 2), (6, none), (7, some 2), (8, none), (9, some 3)] (by kernel_rfl) (by kernel_rfl) (by kernel_rfl) (by kernel_rfl) (by kernel_rfl) (fun _ _ _ _ _ h => h) (by have := K.out.drew.range; rwa [List.toList_toArray] at this) ?_
 simp only [yD, yE, yF, yG]
 (repeat (first | ((first | (refine qs_row (by rfl) 66 (.tmp 2) (by rfl) w.heap.size 0 (by rfl) (geC g) _ (fun j w' _ h2 h => h) Tryz.underlying66 rfl (geC_info _) ?_)); simp only [Act.put, yA, yB, yC]) | (refine qs_mid (v := ?_) (by rfl) ?_ ?_; rotate_left 1; (· (intro j w' hj1 hj2 hS; go_simp; (try (simp only [↓IntWalk.iteOmega]; go_simp)); (try simp (disch := omega) only [IntWalk.i64_in]); try with_reducible rfl)); simp only [Act.put, yA, yB, yC]) | (refine qs_skip (by rfl) ?_; simp only [Act.put, yA, yB, yC])))
 refine qs_act ?_
 go_wp2_with (go_at_call 136; refine (plan_any HR.out.1).mono ?_; rintro e w4 ⟨rfl, hb⟩; have L4 := yH (below_chain L.out.drew hb); have K4 := yH (K.out.drew.below hb K.out.lt); clear hb)
 refine ⟨by have := K4.out.range; rwa [List.toList_toArray] at this, ?_⟩
 (repeat (first | ((first | (refine qs_row (by rfl) 66 (.tmp 2) (by rfl) w.heap.size 0 (by rfl) (geC g) _ (fun j w' _ h2 h => h) Tryz.underlying66 rfl (geC_info _) ?_)); simp only [Act.put, yA, yB, yC]) | (refine qs_mid (v := ?_) (by rfl) ?_ ?_; rotate_left 1; (· (intro j w' hj1 hj2 hS; go_simp; (try (simp only [↓IntWalk.iteOmega]; go_simp)); (try simp (disch := omega) only [IntWalk.i64_in]); try with_reducible rfl)); simp only [Act.put, yA, yB, yC]) | (refine qs_skip (by rfl) ?_; simp only [Act.put, yA, yB, yC])))
 refine qs_act ?_
 go_wp2_with (go_at_call 202; refine (pages_any HR.out.1).mono ?_; rintro e w5 ⟨rfl, hb⟩; have L5 := yH (below_chain L4.out hb); have K5 := yH (K4.out.below hb K4.out.lt); clear hb)
 refine ⟨by have := K5.out.range; rwa [List.toList_toArray] at this, ?_⟩
 (repeat (first | ((first | (refine qs_row (by rfl) 66 (.tmp 2) (by rfl) w.heap.size 0 (by rfl) (geC g) _ (fun j w' _ h2 h => h) Tryz.underlying66 rfl (geC_info _) ?_)); simp only [Act.put, yA, yB, yC]) | (refine qs_mid (v := ?_) (by rfl) ?_ ?_; rotate_left 1; (· (intro j w' hj1 hj2 hS; go_simp; (try (simp only [↓IntWalk.iteOmega]; go_simp)); (try simp (disch := omega) only [IntWalk.i64_in]); try with_reducible rfl)); simp only [Act.put, yA, yB, yC]) | (refine qs_skip (by rfl) ?_; simp only [Act.put, yA, yB, yC])))
 refine qs_act ?_
 go_wp2_with (go_at_call 141; refine (one_any HG.out HR.out i HI.out (2 + 2 * g.jou) (2 * pagesI g) (by omega) (by omega)).mono ?_; rintro e w6 ⟨rfl, hb⟩; have L6 := yH (below_chain L5.out hb); have K6 := yH (K5.out.below hb K5.out.lt); clear hb)
 refine ⟨by have := K6.out.range; rwa [List.toList_toArray] at this, ?_⟩
 (repeat (first | ((first | (refine qs_row (by rfl) 66 (.tmp 2) (by rfl) w.heap.size 0 (by rfl) (geC g) _ (fun j w' _ h2 h => h) Tryz.underlying66 rfl (geC_info _) ?_)); simp only [Act.put, yA, yB, yC]) | (refine qs_mid (v := ?_) (by rfl) ?_ ?_; rotate_left 1; (· (intro j w' hj1 hj2 hS; go_simp; (try (simp only [↓IntWalk.iteOmega]; go_simp)); (try simp (disch := omega) only [IntWalk.i64_in]); try with_reducible rfl)); simp only [Act.put, yA, yB, yC]) | (refine qs_skip (by rfl) ?_; simp only [Act.put, yA, yB, yC])))
 refine qs_nil ?_
 go_wp2_with fail
 go_ret
 exact ⟨rfl, L6.out⟩
end
end Go.Proofs.YtffalfacakdhkaaGreatDoor
