/-
  what this claim needs of: DkA3, DkI1, DkU2, DkU3, DkF, DkJ2 (written by cut.py).
-/
import Derived.Test.YtffalfacakdhkaaGreatDoorDDkO4
import Derived.Test.YtffalfacakdhkaaGreatDoorDDkE
import Derived.Test.YtffalfacakdhkaaGreatDoorDDkLaid
import Derived.Test.YtffalfacakdhkaaGreatDoorDQnF4
namespace Go.Proofs.YtffalfacakdhkaaGreatDoor
open Go.RowKit Go.Maps Go.Shelf
set_option linter.unusedVariables false
set_option linter.unusedSimpArgs false
def SqPost (X : List UInt8) (w : World) (e : Ending) (w' : World) : Prop :=
 ∃ Bs Bp Bz, e = .returned (.func (.func 30) #[] #[.pointer (some ⟨Bp, 0, none⟩), .pointer (some ⟨Bs, 0, none⟩), .pointer (some ⟨Bz, 0, none⟩)]) ∧ SpB Bs Bp Bz X w' ∧ (Bs ≠ Bp ∧ Bs ≠ Bz) ∧ w.heap.size ≤ Bs ∧ w.heap.size ≤ Bp ∧ w.heap.size ≤ Bz ∧ Below w.heap.size w w'
theorem split_seq0 (X : List UInt8) (w : World) : Calls Tryz.prog 18 #[.string ⟨X.toArray⟩, .string ⟨#[10]⟩, .int .i64 0] w (SqPost X w) := by
 obtain ⟨s, hs⟩ : ∃ s : ByteArray, s = ⟨X.toArray⟩ := ⟨_, rfl⟩
 unfold SqPost SpB
 rw [← hs]
 clear hs
 go_enter Tryz.func18, Tryz.ntmps18
 go_wp2
 go_ret
 have h1 : (w.alloc (Obj.cells #[.string s] 9)).heap.size = w.heap.size + 1 := by simp
 have h2 : ((w.alloc (Obj.cells #[.string s] 9)).alloc (Obj.cells #[.string ⟨#[10]⟩] 9)).heap.size = w.heap.size + 2 := by simp
 have b2 := Boxed.new (w.alloc (Obj.cells #[.string s] 9)) 9 (.string ⟨#[10]⟩)
 have b3 := Boxed.new ((w.alloc (Obj.cells #[.string s] 9)).alloc (Obj.cells #[.string ⟨#[10]⟩] 9)) 3 (.int .i64 0)
 rw [h1] at b2
 rw [h2] at b3
 refine ⟨w.heap.size, w.heap.size + 1, w.heap.size + 2, by first | rfl | simp, ⟨((Boxed.new w _ _).alloc _).alloc _, b2.alloc _, b3⟩, by omega, by omega, by omega, by omega, (((Below.refl _ _).alloc (Nat.le_refl _) _).alloc (by simp) _).alloc (by simp; omega) _⟩
theorem split_seq (X : List UInt8) (w : World) : Calls Tryz.prog 14 #[.string ⟨X.toArray⟩, .string ⟨#[10]⟩] w (SqPost X w) := by
 obtain ⟨s, hs⟩ : ∃ s : ByteArray, s = ⟨X.toArray⟩ := ⟨_, rfl⟩
 have HS := yH (split_seq0 X w)
 rw [← hs] at HS
 rw [← hs]
 clear hs
 go_enter Tryz.func14, Tryz.ntmps14
 go_wp2_with (go_at_call 18; refine HS.out.mono ?_; rintro e w1 ⟨Bs, Bp, Bz, rfl, h1, h2, h3, h4, h5, h6⟩; have HP := yH (And.intro h1 (And.intro h2 (And.intro h3 (And.intro h4 (And.intro h5 h6))))); clear h1 h2 h3 h4 h5 h6)
 go_ret
 exact ⟨Bs, Bp, Bz, rfl, HP.out⟩
end Go.Proofs.YtffalfacakdhkaaGreatDoor
namespace Go.Proofs.YtffalfacakdhkaaGreatDoor
open Go.RowKit Go.Maps Go.Shelf
set_option linter.unusedVariables false
set_option linter.unusedSimpArgs false
section
variable {W W' : World} {i : ImI} {N q : Nat} {Y : Hd} {M : SnM}
theorem ImIs.c0 [gm : Inhabited GMk] (h : ImIs W i N q Y M) : W.cell? ⟨i.x, 0, none⟩ = some (.pointer (some ⟨i.d, 0, none⟩)) := h.blk.cell rfl
theorem ImIs.vir [gm : Inhabited GMk] (h : ImIs W i N q Y M) : W.cell? ⟨i.x, 2, none⟩ = some (.int .i64 Y.geo.vir) := h.blk.cell rfl
theorem ImIs.snap [gm : Inhabited GMk] (h : ImIs W i N q Y M) : W.cell? ⟨i.x, 10, none⟩ = some (.int .i64 Y.snap) := h.blk.cell rfl
theorem ImIs.c11 [gm : Inhabited GMk] (h : ImIs W i N q Y M) : W.cell? ⟨i.x, 11, none⟩ = some (.pointer (some ⟨i.si, 0, none⟩)) := h.blk.cell rfl
theorem ImIs.c12 [gm : Inhabited GMk] (h : ImIs W i N q Y M) : W.cell? ⟨i.x, 12, none⟩ = some (.pointer (some ⟨i.jb, 0, none⟩)) := h.blk.cell rfl
theorem ImIs.c14 [gm : Inhabited GMk] (h : ImIs W i N q Y M) : W.cell? ⟨i.x, 14, none⟩ = some (.int .u32 0) := h.blk.cell rfl
theorem ci_dk [gm : Inhabited GMk] {c kb d sb ob n N : Nat} {L : Int → Sec} (h : CcI W c kb d sb ob n L N) : ∃ S O, DkIs W d sb ob n S O := by
 obtain ⟨K, S, O, h1, _⟩ := h
 exact ⟨S, O, h1.dk⟩
theorem bool_load (a : Addr) (w : World) (hc : w.cell? a = some (.int .u32 0)) : Calls Tryz.prog 174 #[.pointer (some a)] w fun e w' => e = .returned (.bool false) ∧ w = w' := by
 obtain ⟨b, off, so⟩ := a
 have hl := run_call_load (P := Tryz.prog) Tryz.func254 (by kernel_rfl) (by kernel_rfl) (by kernel_rfl) .u32 (by kernel_rfl) hc
 go_enter Tryz.func174, Tryz.ntmps174
 go_wp2
 go_ret
 exact ⟨rfl, rfl⟩
theorem im_down [gm : Inhabited GMk] (h : ImIs W i N q Y M) : Calls Tryz.prog 87 #[.pointer (some ⟨i.d, 0, none⟩)] W fun e w' => e = .returned (.bool false) ∧ W = w' := by
 obtain ⟨L, hc⟩ := h.cc
 obtain ⟨S, O, hd⟩ := ci_dk hc
 exact dk_down hd
set_option maxRecDepth 100000 in
theorem im_within [gm : Inhabited GMk] (h : ImIs W i N q Y M) (hv : Y.geo.vir = 64) : Calls Tryz.prog 100 #[.pointer (some ⟨i.x, 0, none⟩), .int .i64 0, .int .i64 0] W fun e w' => e = .returned (.bool true) ∧ W = w' := by
 have c2 := h.vir
 rw [hv] at c2
 clear h
 go_enter Tryz.func100, Tryz.ntmps100
 go_wp2
 go_ret
 exact ⟨rfl, rfl⟩
set_option maxRecDepth 100000 in
/-- do: the deed is done. -/
theorem im_do [gm : Inhabited GMk] (h : ImIs W i N q Y M) (f : FuncId) (fn : Func) (code : Code) (hf : Tryz.prog.funcs[f]? = some fn) (hname : (fn.name == "runtime.NumGoroutine") = false) (hb : fn.body = some code) (bound : Array Value) (R : Int → World → Prop)
  (hcall : Calls Tryz.prog f bound W fun e w' => ∃ r, e = .returned (.int .i64 r) ∧ r ≠ 9 ∧ R r w') :
  Calls Tryz.prog 88 #[.pointer (some ⟨i.x, 0, none⟩), .func (.func f) #[] bound] W fun e w' => ∃ r, e = .returned (.int .i64 r) ∧ R r w' := by
 have H := yH h
 have c0 := h.c0
 have HEnt := yH (fun args W => enter_run (P := Tryz.prog) hf hname hb args W)
 have HC := yH hcall
 clear h hf hname hb hcall
 go_enter Tryz.func88, Tryz.ntmps88
 go_wp2_with (first
  | (go_at_call 174; refine (bool_load _ _ H.out.c14).mono ?_; rintro e w1 ⟨rfl, rfl⟩)
  | (go_at_call 87; refine (im_down H.out).mono ?_; rintro e w1 ⟨rfl, rfl⟩))
 simp only [HEnt.out, Result.andThen_ok, Sem.run_bind, Oper.upon_enter]
 refine (HC.out).mono ?_
 rintro e w1 ⟨r, rfl, hr, hR⟩
 go_wp2
 go_ret
 exact ⟨r, rfl, hR⟩
end
end Go.Proofs.YtffalfacakdhkaaGreatDoor
namespace Go.Proofs.YtffalfacakdhkaaGreatDoor
open Go.RowKit Go.Maps
set_option linter.unusedVariables false
set_option linter.unusedSimpArgs false
theorem sp_cl (b : Nat) (W : World) (h : Blk W b 66 (geC geS).toArray) : Calls Tryz.prog 342 #[.int .i64 0, .pointer (some ⟨b, 0, none⟩)] W fun e w' => e = .returned (.bool false) ∧ W = w' := by
 have c2 : W.cell? ⟨b, 2, none⟩ = some (.int .i64 32) := h.cell rfl
 clear h
 go_enter Tryz.func342, Tryz.ntmps342
 go_wp2
 go_ret
 exact ⟨rfl, rfl⟩
def IfI (W : World) (m : Nat) (iv : Value) (wr : World) : Prop := ∃ i : Nat, iv = .int .i64 (i : Int) ∧ i ≤ 4 ∧ i + m ≤ 4 ∧ 4 ≤ i + m ∧ wr = W
set_option maxRecDepth 100000 in
theorem sp_index (b g : Nat) (W : World) (h : Blk W b 66 (geC geS).toArray) (hg : Blk W g 3 z4) : Calls Tryz.prog 399 #[.slice (some ⟨g, 0, none⟩) 4 4, .func (.func 342) #[] #[.pointer (some ⟨b, 0, none⟩)]] W fun e w' => e = .returned (.int .i64 (-1)) ∧ W = w' := by
 have H := yH h
 have HG := yH hg
 clear h hg
 go_enter Tryz.func399, Tryz.ntmps399
 go_wp2
 go_loopg [8] 4 (fun m iv wr => IfI W m iv wr)
 case atStart => exact ⟨0, rfl, by omega, by omega, by omega, rfl⟩
 case round =>
  obtain ⟨i, rfl, h1, h2, h3, rfl⟩ := hrel
  by_cases hi : i < 4
  ·have hI : (i : Int) < 4 := by omega
   have hc : wr.cell? ⟨g, i, none⟩ = some (.int .i64 0) := HG.out.cell (z4_at i hi)
   go_wp2_with (go_at_call 342; refine (sp_cl b _ H.out).mono ?_; rintro e w1 ⟨rfl, rfl⟩)
   go_roundg (gk - 1)
   case measure => omega
   case rel => exact ⟨i + 1, by go_num, by omega, by omega, by omega, rfl⟩
  ·have hI : ¬ (i : Int) < 4 := by omega
   obtain rfl : i = 4 := by omega
   go_wp2
   go_ret
   exact ⟨rfl, rfl⟩
theorem sp_contains (b g : Nat) (W : World) (h : Blk W b 66 (geC geS).toArray) (hg : Blk W g 3 z4) : Calls Tryz.prog 341 #[.slice (some ⟨g, 0, none⟩) 4 4, .func (.func 342) #[] #[.pointer (some ⟨b, 0, none⟩)]] W fun e w' => e = .returned (.bool false) ∧ W = w' := by
 have HS := yH (sp_index b g W h hg)
 clear h hg
 go_enter Tryz.func341, Tryz.ntmps341
 go_wp2_with (go_at_call 399; refine HS.out.mono ?_; rintro e w1 ⟨rfl, rfl⟩)
 go_ret
 exact ⟨rfl, rfl⟩
set_option maxRecDepth 100000 in
theorem sp_right (g : Nat) (W : World) (hg : Blk W g 3 z4) : Calls Tryz.prog 284 #[.agg (geC geS).toArray, .slice (some ⟨g, 0, none⟩) 4 4] W fun e w' => e = .returned (.bool true) ∧ Below W.heap.size W w' := by
 have HG := yH hg
 clear hg
 go_enter Tryz.func284, Tryz.ntmps284
 go_wp2_with (first
  | (refine wpl_box rfl 66 (.tmp 0) rfl _ rfl ?_; intro w1 hk hg hz; have K1 := yH hk; have L1 := yH (bl_n (Below.refl _ W) hg); have c1 : w1.cell? ⟨W.heap.size, 1, none⟩ = some (.int .i64 4) := K1.out.cell rfl; have G1 := yH (HG.out.below L1.out HG.out.lt); clear hk hg hz; simp only [Act.put, yA, yB, yC])
  | (go_at_call 341; refine (sp_contains _ g _ K1.out G1.out).mono ?_; rintro e w2 ⟨rfl, rfl⟩))
 go_ret
 exact ⟨rfl, L1.out⟩
end Go.Proofs.YtffalfacakdhkaaGreatDoor
namespace Go.Proofs.YtffalfacakdhkaaGreatDoor
open Go.RowKit Go.Maps
set_option linter.unusedVariables false
set_option linter.unusedSimpArgs false
/-- A space at sb in which no segment is open. -/
def SpIs (W : World) (sb : Nat) : Prop := ∃ cs, Blk W sb 295 cs ∧ cs.size = 264 ∧ cs[256]? = some (.int .i64 (-1))
theorem info_intD : (Tryz.prog.info? 3).map (·.size) = some 1 := by kernel_rfl
theorem info_bool : (Tryz.prog.info? 4).map (·.size) = some 1 := by kernel_rfl
def SsI (W : World) (sb : Nat) (m : Nat) (iv : Value) (wr : World) : Prop := ∃ i : Nat, iv = .int .i64 (i : Int) ∧ i ≤ 4 ∧ i + m ≤ 4 ∧ 4 ≤ i + m ∧ SpIs wr sb ∧ Tch [sb] W wr
set_option maxRecDepth 100000 in
theorem sp_set (sb g : Nat) (W : World) (h : SpIs W sb) (hg : Blk W g 3 z4) : Calls Tryz.prog 285 #[.pointer (some ⟨sb, 0, none⟩), .slice (some ⟨g, 0, none⟩) 4 4] W fun e w' => e = .returned (.tuple #[]) ∧ SpIs w' sb ∧ Tch [sb] W w' := by
 have H := yH h
 have HG := yH hg
 have hne : g ∉ [sb] := by obtain ⟨cs, h1, _⟩ := h; have := blk_ne_ty hg h1 (by decide); simpa using this
 have HN := yH hne
 clear h hg hne
 go_enter Tryz.func285, Tryz.ntmps285
 go_wp2
 go_loopg [8] 4 (fun m iv wr => SsI W sb m iv wr)
 case atStart => exact ⟨0, rfl, by omega, by omega, by omega, H.out, Tch.refl _ _⟩
 case round =>
  obtain ⟨i, rfl, h1, h2, h3, hs, hT⟩ := hrel
  have HT := yH hT
  by_cases hi : i < 4
  ·have hI : (i : Int) < 4 := by omega
   have hI2 : (i : Int) < 256 := by omega
   have hd : ((i : Int) == -1) = false := beq_eq_false_iff_ne.2 (by omega)
   have G := yH (HG.out.tch hT HN.out)
   have hc : wr.cell? ⟨g, i, none⟩ = some (.int .i64 0) := G.out.cell (z4_at i hi)
   obtain ⟨cs, hb, hz, ho⟩ := hs
   have HB := yH hb
   have HZ := yH hz
   have HO := yH ho
   have hS : wr.drew.cell? ⟨sb, 256, none⟩ = some (.int .i64 (-1)) := hb.drew.cell ho
   clear hb hz ho hT
   go_upto_region 3 with fail
   refine wp_region_qs (fun _ w' => w'.cell? ⟨sb, 256, none⟩ = some (.int .i64 (-1))) [(0, some 0), (1, some 0), (2, some 0), (3, some 0), (4, some 0), (5, some 0), (6, some 0), (7, some 0), (8, some 0), (9, some 0), (10, some 0), (11, some 0), (12, some 0), (13, some 1), (14, some 1), (15, some 1), (16, some 0), (17, none)] (by kernel_rfl) (by kernel_rfl) (by kernel_rfl) (by kernel_rfl) (by kernel_rfl) (fun _ _ _ _ _ h => h) hS ?_
   simp only [yD, yE, yF, yG]
   (repeat (first | (refine qs_mid (v := ?_) (by rfl) ?_ ?_; rotate_left 1; (· (intro j w' hj1 hj2 hS; go_simp; (try (simp only [↓IntWalk.iteOmega]; go_simp)); (try simp (disch := omega) only [IntWalk.i64_in]); try with_reducible rfl)); simp only [Act.put, yA, yB, yC]) | (refine qs_skip (by rfl) ?_; simp only [Act.put, yA, yB, yC])))
   refine qs_act ?_
   go_wp2_with (refine wpl_setD rfl 4 (.tmp 29) (.tmp 25) (by rfl) sb i (.bool false) (by rfl) (by rfl) _ _ HB.out.drew info_bool (by rw [HZ.out]; omega) (by rfl) (by rfl) ?_; intro w2 hb hg hz; have B2 := yH hb; have T2 := yH (Tch.one hg); clear hb hg hz; simp only [Act.put, yA, yB, yC])
   have hO2 : (cs.setIfInBounds i (.bool false))[256]? = some (.int .i64 (-1)) := by
    rw [Array.getElem?_setIfInBounds_ne (by omega)]
    exact HO.out
   have S2 := yH (show SpIs w2 sb from ⟨_, B2.out, by rw [Array.size_setIfInBounds]; exact HZ.out, hO2⟩)
   refine ⟨B2.out.cell hO2, ?_⟩
   (repeat (first | (refine qs_mid (v := ?_) (by rfl) ?_ ?_; rotate_left 1; (· (intro j w' hj1 hj2 hS; go_simp; (try (simp only [↓IntWalk.iteOmega]; go_simp)); (try simp (disch := omega) only [IntWalk.i64_in]); try with_reducible rfl)); simp only [Act.put, yA, yB, yC]) | (refine qs_skip (by rfl) ?_; simp only [Act.put, yA, yB, yC])))
   refine qs_nil ?_
   have T02 := yH (show Tch [sb] W w2 from (HT.out.trans (Tch.below (Below.refl _ wr).drew)).trans T2.out)
   clear B2 T2 HB HZ HO hS hc hO2
   go_wp2
   go_roundg (gk - 1)
   case measure => omega
   case rel => exact ⟨i + 1, by go_num, by omega, by omega, by omega, S2.out, T02.out⟩
  ·have hI : ¬ (i : Int) < 4 := by omega
   obtain rfl : i = 4 := by omega
   go_wp2
   go_end0
   exact ⟨rfl, hs, HT.out⟩
noncomputable def spC : Array Value := putAt Tryz.zeroCells295 258 (geC geS)
set_option maxRecDepth 100000 in
theorem built_spD : Tryz.prog.built 295 [(1, .agg (geC geS).toArray)] = some spC := by kernel_rfl
theorem spC_size : spC.size = 264 := by kernel_rfl
set_option maxRecDepth 100000 in
theorem sp_new (g : Nat) (W : World) (hg : Blk W g 3 z4) : Calls Tryz.prog 209 #[.agg (geC geS).toArray, .slice (some ⟨g, 0, none⟩) 4 4] W fun e w' => ∃ sb, e = .returned (.pointer (some ⟨sb, 0, none⟩)) ∧ Below W.heap.size W w' := by
 have HG := yH hg
 have HS := yH spC_size
 clear hg
 have hb := built_spD
 generalize spC = sc at *
 go_enter Tryz.func209, Tryz.ntmps209
 go_upto_region 3 with (first
  | (refine wpl_box rfl 66 (.tmp 0) rfl _ rfl ?_; intro w1 hk hg hz; have K1 := yH hk; have L1 := yH (bl_n (Below.refl _ W) hg); clear hk hg hz; simp only [Act.put, yA, yB, yC])
  | (refine wpl_load_blk rfl 66 (.tmp 2) (by rfl) W.heap.size (by rfl) 66 _ K1.out _ Tryz.underlying66 rfl 5 (geC_info geS) rfl ?_; simp only [Act.put, yA, yB, yC])
  | (go_at_call 74; refine (right_any geS_geB).mono ?_; rewrite [decide_eq_true geS_right]; rintro e w2 ⟨rfl, hl⟩; have L2 := yH (below_chain L1.out hl); have K2 := yH (K1.out.below hl K1.out.lt); have G2 := yH (HG.out.below L2.out HG.out.lt); have R2 := yH (show w2.rangeAt W.heap.size 0 (geC geS) by have := K2.out.range; rwa [List.toList_toArray] at this); clear hl)
  | (with_reducible refine wpl_valD (v := .agg (geC geS).toArray) (by kernel_rfl) (load_runD 66 (x := .tmp 2) (by with_reducible rfl) W.heap.size 0 (by kernel_rfl) (geC geS) _ R2.out Tryz.underlying66 rfl (geC_info geS)) ?_; simp only [Act.put, yA, yB, yC])
  | (go_at_call 284; refine (sp_right g _ G2.out).mono ?_; rintro e w3 ⟨rfl, hl⟩; have L3 := yH (below_chain L2.out hl); have K3 := yH (K2.out.below hl K2.out.lt); have G3 := yH (G2.out.below hl G2.out.lt); clear hl))
 have HB := yH hb
 clear K1 L1 K2 G2 R2 L2 hb
 go_wp2_with (first
  | (refine wpl_load_blk rfl 66 (.tmp 2) (by rfl) W.heap.size (by rfl) 66 _ K3.out _ Tryz.underlying66 rfl 5 (geC_info geS) rfl ?_; simp only [Act.put, yA, yB, yC])
  | (refine wpl_mk rfl 295 #[(1, .tmp 15)] (by rfl) [(1, .agg (geC geS).toArray)] (by rfl) _ HB.out ?_; simp only [Act.put, yA, yB, yC])
  | (refine wpl_box rfl 295 (.tmp 16) (by rfl) _ (by rfl) ?_; intro w4 hk hg hz; have B4 := yH hk; have L4 := yH (bl_n (Below.refl _ w3) hg); have G4 := yH (G3.out.below L4.out G3.out.lt); clear hk hg hz; simp only [Act.put, yA, yB, yC])
  | (refine wpl_setD rfl 3 (.tmp 21) (.const (.int .i64 (-1))) (by rfl) w3.heap.size 256 (.int .i64 (-1)) (by rfl) (by rfl) _ _ B4.out info_intD (by rw [HS.out]; omega) (by rfl) (by rfl) ?_; intro w5 hb hg hz; have B5 := yH (show SpIs w5 w3.heap.size from ⟨_, hb, by rw [Array.size_setIfInBounds]; exact HS.out, by rw [Array.getElem?_setIfInBounds_self_of_lt (by rw [HS.out]; omega)]⟩); have L5 := yH (bl_g L4.out hg (Nat.le_refl _)); have G5 := yH (G4.out.tch (Tch.one hg) (by have := G3.out.lt; simp; omega)); clear hb hg hz; simp only [Act.put, yA, yB, yC])
  | (go_at_call 285; refine (sp_set w3.heap.size g _ B5.out G5.out).mono ?_; rintro e w6 ⟨rfl, hs, hT⟩; have L6 := yH (show Below w3.heap.size w3 w6 from L5.out.trans (hT.toBelow L5.out.size (fun k hk => by simp at hk; omega))); clear hs hT))
 go_ret
 exact ⟨_, rfl, below_chain L3.out L6.out⟩
end Go.Proofs.YtffalfacakdhkaaGreatDoor
namespace Go.Proofs.YtffalfacakdhkaaGreatDoor
open Go.RowKit Go.Maps
set_option linter.unusedVariables false
set_option linter.unusedSimpArgs false
theorem fg_prefix_m (m : Nat) (hm : 512 ≤ m ∧ m ≤ 40000) (xs ys : List Int) (b off cap g : Nat) (W : World) (hr : RdI .u8 W (some ⟨b, off, none⟩) m xs) (hX : ∀ z ∈ xs, 0 ≤ z ∧ z < 256) (hc : m ≤ cap) (hB : Blk W g 5 (bV ys).toArray) (hY : ∀ z ∈ ys, 0 ≤ z ∧ z < 256) (hl : ys.length = 512) :
  Calls Tryz.prog 316 #[.slice (some ⟨b, off, none⟩) m cap, .slice (some ⟨g, 0, none⟩) 512 512] W fun e w' => e = .returned (.bool (decide (xs.take 512 = ys))) ∧ w' = W :=
 bprefix_any xs ys (some ⟨b, off, none⟩) (some ⟨g, 0, none⟩) m 512 cap 512 W hr (rd_full hB hl) (by omega) (by omega) hc hX hY (by omega)
set_option maxRecDepth 100000 in
set_option maxHeartbeats 2000000 in
theorem fr_get_m (m : Nat) (hm : 512 ≤ m ∧ m ≤ 40000) (xs : List Int) (b off cap : Nat) (w : World) (hr : RdI .u8 w (some ⟨b, off, none⟩) m xs) (hX : ∀ z ∈ xs, 0 ≤ z ∧ z < 256) (hc : m ≤ cap) (kind ep sq n : Nat) (hk : xs[4]? = some (kind : Int)) (hep : saidL (subL xs 8 8) = ep) (hsq : saidL (subL xs 16 8) = sq) (hn : saidL (subL xs 24 4) = n) (hep2 : ep ≤ 1099511627776) (hsq2 : sq ≤ 1099511627776) (hn2 : n ≤ 480) (hne : xs.take 512 ≠ frL kind ep sq (subL xs 28 n)) :
  Calls Tryz.prog 241 #[.slice (some ⟨b, off, none⟩) m cap] w (fun e w' => Below w.heap.size w w' ∧ e = .returned (.tuple #[.agg (fmC 0 0 0 none 0 0).toArray, .int .i64 0, .int .i64 4])) := by
 have HR := yH hr
 have HX := yH hX
 have hcI : (m : Int) ≤ (cap : Int) := by omega
 have hcJ : (512 : Int) ≤ (cap : Int) := by omega
 have hmI : (512 : Int) ≤ (m : Int) := by omega
 have hmJ : ¬ (m : Int) < 512 := by omega
 have HNE := yH hne
 have HK := yH hk
 have S1 := yH (fun W c (h : RdI .u8 W (some ⟨b, off, none⟩) m xs) => by have := fr_said (subL xs 8 8) (some ⟨b, off + 8, none⟩) 8 c W (rd_sub h (by omega)) (fun z hz => hX z (List.mem_of_mem_drop (List.mem_of_mem_take hz))) (by omega); rw [hep] at this; exact this)
 have S2 := yH (fun W c (h : RdI .u8 W (some ⟨b, off, none⟩) m xs) => by have := fr_said (subL xs 16 8) (some ⟨b, off + 16, none⟩) 8 c W (rd_sub h (by omega)) (fun z hz => hX z (List.mem_of_mem_drop (List.mem_of_mem_take hz))) (by omega); rw [hsq] at this; exact this)
 have S3 := yH (fun W c (h : RdI .u8 W (some ⟨b, off, none⟩) m xs) => by have := fr_said (subL xs 24 4) (some ⟨b, off + 24, none⟩) 4 c W (rd_sub h (by omega)) (fun z hz => hX z (List.mem_of_mem_drop (List.mem_of_mem_take hz))) (by omega); rw [hn] at this; exact this)
 clear hr hX hk hep hsq hn hne
 go_enter Tryz.func241, Tryz.ntmps241
 go_upto_region 3 with (refine wpl_alloc rfl 359 (by rfl) Tryz.zeroValue359 4 (by rfl) ?_; intro w1 cs1 hk hc hg hz; have K := yH hk; have C1 := yH hc; have L1 := yH (bl_n (Below.refl _ _) hg); clear hk hc hg hz; simp only [Act.put, yA, yB, yC])
 have R1 := yH (show RdI .u8 w1.drew (some ⟨b, off, none⟩) m xs from HR.out.below (by have := L1.out.drew; exact this))
 have hnu : ¬ (32768 : Int) < (n : Int) := by omega
 have hepu : ¬ (1099511627776 : Int) < (ep : Int) := by omega
 have hsqu : ¬ (1099511627776 : Int) < (sq : Int) := by omega
 refine wp_region_qs (fun _ _ => True) [(0, some 3), (1, some 2), (3, some 3), (4, some 2), (6, some 3), (7, some 2), (2, none), (5, none), (8, none), (9, some 3), (10, some 3), (11, some 3)] (by kernel_rfl) (by kernel_rfl) (by kernel_rfl) (by kernel_rfl) (by kernel_rfl) (fun _ _ _ _ _ h => h) trivial ?_
 simp only [yD, yE, yF, yG]
 (repeat (first | (refine qs_mid (v := ?_) (by rfl) ?_ ?_; rotate_left 1; (· (intro j w' hj1 hj2 hS; go_simp; (try (simp only [↓IntWalk.iteOmega]; go_simp)); (try simp (disch := omega) only [IntWalk.i64_in]); try with_reducible rfl)); simp only [Act.put, yA, yB, yC]) | (refine qs_skip (by rfl) ?_; simp only [Act.put, yA, yB, yC])))
 refine qs_act ?_
 go_wp2_with (go_at_call 314; refine (S1.out _ _ R1.out).mono ?_; rintro e w4 ⟨rfl, rfl⟩)
 refine ⟨trivial, ?_⟩
 refine qs_act ?_
 go_wp2_with (go_at_call 314; refine (S2.out _ _ R1.out).mono ?_; rintro e w4 ⟨rfl, rfl⟩)
 refine ⟨trivial, ?_⟩
 refine qs_act ?_
 go_wp2_with (go_at_call 314; refine (S3.out _ _ R1.out).mono ?_; rintro e w4 ⟨rfl, rfl⟩)
 refine ⟨trivial, ?_⟩
 (repeat (first | (refine qs_mid (v := ?_) (by rfl) ?_ ?_; rotate_left 1; (· (intro j w' hj1 hj2 hS; go_simp; (try (simp only [↓IntWalk.iteOmega]; go_simp)); (try simp (disch := omega) only [IntWalk.i64_in]); try with_reducible rfl)); simp only [Act.put, yA, yB, yC]) | (refine qs_skip (by rfl) ?_; simp only [Act.put, yA, yB, yC])))
 refine qs_nil ?_
 go_upto_region 6 with (go_at_call 315; refine (fr_sectors n hn2 _).mono ?_; rintro e w2 ⟨rfl, rfl⟩)
 have CK := yH (show w1.cell? ⟨b, off + 4, none⟩ = some (.int .u8 (kind : Int)) by
  obtain ⟨b2, o2, e, hlt, hcell⟩ := (HR.out.below L1.out).2 (by omega)
  injection e with e
  injection e with e1 e2
  subst e1 e2
  have := hcell 4 (by omega)
  rwa [List.getD_eq_getElem?_getD, HK.out] at this)
 have hkb : 0 ≤ (kind : Int) ∧ (kind : Int) < 256 := HX.out _ (List.mem_of_getElem? HK.out)
 have hadd : IntKind.u64.wrap (28 + (n : Int)) = 28 + (n : Int) := by rw [IntKind.wrap_u64]; omega
 have CL := yH (fun W (hb : Below w.heap.size w W) => bclone_any ⟨b, off + 28, none⟩ n (cap - 28) (src_rd (rd_sub (q := n) (HR.out.below hb) (by omega))) (bV_one _) (by omega))
 refine wp_region_two (fun _ w' => w'.cell? ⟨b, off + 4, none⟩ = some (.int .u8 (kind : Int))) [12, 14, 15] [(0, 2), (1, 2), (2, 2), (3, 2), (4, 2), (5, 2), (6, 2), (7, 2), (8, 2), (9, 2), (10, 2), (11, 2)] 12 14 [(13, some 2), (14, none), (15, none)] [(12, none), (13, some 2), (15, none)]
  (FgR w1 (bV (subL xs 28 n)) kind ep sq n)
  (fun a v => (((((((((((((((a.put (some 44) (.slice (some ⟨b, off, none⟩) m cap)).put (some 45) (.pointer (some ⟨b, off + 4, none⟩))).put (some 46) (.int .u8 (kind : Int))).put (some 47) (.int .i64 (kind : Int))).put (some 48) (.int .u64 (ep : Int))).put (some 49) (.int .i64 (ep : Int))).put (some 50) (.int .u64 (sq : Int))).put (some 51) (.int .i64 (sq : Int))).put (some 52) (.slice (some ⟨b, off, none⟩) m cap)).put (some 53) (.int .u64 (n : Int))).put (some 54) (.int .u64 (28 + (n : Int)))).put (some 55) (.slice (some ⟨b, off + 28, none⟩) n (cap - 28))).put (some 56) (fstV v)).put (some 57) (.agg #[.int .i64 (kind : Int), .int .i64 (ep : Int), .int .i64 (sq : Int), fstV v])).put (some 8) (sndV v)))
  _ _ (by kernel_rfl) rfl rfl (by kernel_rfl) (by kernel_rfl) (by kernel_rfl) (by kernel_rfl) (by kernel_rfl) (by kernel_rfl) (by kernel_rfl) (by kernel_rfl) rfl rfl CK.out ?_ ?_
 ·simp only [yD, yE, yF, yG]
  (repeat (first | (refine qs_mid (v := ?_) (by rfl) ?_ ?_; rotate_left 1; (· (intro j w' hj1 hj2 hS; go_simp; (try (simp only [↓IntWalk.iteOmega]; go_simp)); (try simp (disch := omega) only [IntWalk.i64_in]); try with_reducible rfl)); simp only [Act.put, yA, yB, yC]) | (refine qs_skip (by rfl) ?_; simp only [Act.put, yA, yB, yC])))
  refine qs_nil ?_
  refine ⟨toHeld ?_, toHeld ?_⟩
  ·go_wp2_with (go_at_call 102; rewrite [show 28 + n - 28 = n by omega]; refine (CL.out w1.drew.drew (show Below w.heap.size w w1.drew.drew from L1.out.drew.drew)).mono ?_; rintro e w2 ⟨v, rfl, ho, hb⟩; have O2 := yH ho; have L2 := yH (show Below w1.heap.size w1 w2 from below_chain (Below.refl w1.heap.size w1).drew.drew hb); clear ho hb)
   have E2 := yH (own_slice O2.out)
   obtain ⟨A, c, hv, hnc⟩ := E2.out
   subst hv
   refine ⟨(cell_below CK.out L2.out), ?_⟩
   (repeat (first | (refine qs_mid (v := ?_) (by rfl) ?_ ?_; rotate_left 1; (· (intro j w' hj1 hj2 hS; go_simp; (try (simp only [↓IntWalk.iteOmega]; go_simp)); (try simp (disch := omega) only [IntWalk.i64_in]); try with_reducible rfl)); simp only [Act.put, yA, yB, yC]) | (refine qs_skip (by rfl) ?_; simp only [Act.put, yA, yB, yC])))
   refine qs_act ?_
   go_wp2_with (refine wpl_alloc rfl 359 (by rfl) Tryz.zeroValue359 4 (by rfl) ?_; intro w3 cs hk hc hg hz; have B3 := yH hk; have C3 := yH hc; have L3 := yH (show Below w2.heap.size w2 w3 from bl_n (Below.refl w2.heap.size w2) hg); clear hk hc hg hz)
   refine ⟨(cell_below CK.out (below_chain L2.out L3.out)), ?_⟩
   refine qs_act ?_
   go_wp2_with (refine wpl_over rfl 359 (.tmp 8) (.tmp 57) (by rfl) w2.heap.size (fmC kind ep sq A n c) (by rfl) (by rfl) _ cs B3.out (fmC_info _ _ _ _ _ _) (by rw [C3.out]; rfl) (by intro v hv; simp [fmC] at hv; rcases hv with rfl | rfl | rfl | rfl <;> rfl) ?_; intro w4 hb hg hz; have B4 := yH hb; have G4 := yH hg; have Z4 := yH hz; clear hb hg hz)
   have L4 := yH (show Below w2.heap.size w2 w4 from L3.out.grown G4.out L3.out.size (fun k hk => by injection hk with hk; omega))
   refine ⟨cell_below CK.out (below_chain L2.out L4.out), ?_⟩
   refine qs_nil ?_
   exact ⟨rfl, _, rfl, A, c, w2.heap.size, rfl, (Src.of_own O2.out).below L4.out, B4.out, below_chain L2.out L4.out, L2.out.size, hnc, own_ge O2.out⟩
  ·go_wp2_with (refine wpl_alloc rfl 359 (by rfl) Tryz.zeroValue359 4 (by rfl) ?_; intro w2 cs hk hc hg hz; have B2 := yH hk; have C2 := yH hc; have Z2 := yH (show w2.heap.size = w1.heap.size + 1 from hz); have L2 := yH (show Below w1.heap.size w1 w2 from bl_n (Below.refl w1.heap.size w1).drew.drew hg); clear hk hc hg hz)
   refine ⟨cell_below CK.out L2.out, ?_⟩
   refine qs_act ?_
   go_wp2_with (go_at_call 102; rewrite [show 28 + n - 28 = n by omega]; refine (CL.out w2 (L1.out.trans (L2.out.mono L1.out.size))).mono ?_; rintro e w3 ⟨v, rfl, ho, hb⟩; have O3 := yH ho; have L3 := yH hb; clear ho hb)
   have E3 := yH (own_slice O3.out)
   obtain ⟨A, c, hv, hnc⟩ := E3.out
   subst hv
   refine ⟨cell_below CK.out (below_chain L2.out L3.out), ?_⟩
   (repeat (first | (refine qs_mid (v := ?_) (by rfl) ?_ ?_; rotate_left 1; (· (intro j w' hj1 hj2 hS; go_simp; (try (simp only [↓IntWalk.iteOmega]; go_simp)); (try simp (disch := omega) only [IntWalk.i64_in]); try with_reducible rfl)); simp only [Act.put, yA, yB, yC]) | (refine qs_skip (by rfl) ?_; simp only [Act.put, yA, yB, yC])))
   refine qs_act ?_
   go_wp2_with (refine wpl_over rfl 359 (.tmp 8) (.tmp 57) (by rfl) w1.heap.size (fmC kind ep sq A n c) (by rfl) (by rfl) _ cs (B2.out.below L3.out B2.out.lt) (fmC_info _ _ _ _ _ _) (by rw [C2.out]; rfl) (by intro v hv; simp [fmC] at hv; rcases hv with rfl | rfl | rfl | rfl <;> rfl) ?_; intro w4 hb hg hz; have B4 := yH hb; have G4 := yH hg; have Z4 := yH hz; clear hb hg hz)
   have L4 := yH (show Below w1.heap.size w1 w4 from (below_chain L2.out L3.out).grown G4.out (below_chain L2.out L3.out).size (fun k hk => by injection hk with hk; omega))
   refine ⟨cell_below CK.out L4.out, ?_⟩
   refine qs_nil ?_
   exact ⟨rfl, _, rfl, A, c, w1.heap.size, rfl, src_tch (Src.of_own O3.out) (tch_g G4.out) (fun _ a ha => by have := own_ge O3.out a ha; have := Z2.out; simp; omega), B4.out, L4.out, Nat.le_refl _, hnc, fun a ha => by have := own_ge O3.out a ha; have := Z2.out; omega⟩
 ·rintro v w' ⟨A, c, f, rfl, hS, hB, hL, hf, hnc, hge⟩
  have Sge := yH (fun a ha => Nat.lt_of_lt_of_le K.out.lt (hge a ha))
  clear hge
  have S5 := yH hS
  have B5 := yH hB
  have L5 := yH (show Below w.heap.size w w' from L1.out.trans (hL.mono L1.out.size))
  have L51 := yH (show Below w1.heap.size w1 w' from hL)
  have HRw := yH (fun W (hb : Below w.heap.size w W) => HR.out.below hb)
  have HPre := yH (fun W (hb : Below w.heap.size w W) (g : Nat) (hB : Blk W g 5 (bV (frL kind ep sq (subL xs 28 n))).toArray) => fg_prefix_m m hm xs (frL kind ep sq (subL xs 28 n)) b off cap g W (HR.out.below hb) HX.out hc hB (frL_bytes (by omega) (fun z hz => HX.out z (List.mem_of_mem_drop (List.mem_of_mem_take hz)))) (by rw [frL_len _ _ _ _ (by simp [subL]; omega)]))
  generalize hD : decide (xs.take 512 = frL kind ep sq (subL xs 28 n)) = D at HPre
  obtain rfl : D = false := by rw [← hD]; exact decide_eq_false HNE.out
  clear hD
  clear hS hB hL
  rw [fstV_two, sndV_two]
  have RG := yH (show w'.rangeAt f 0 (fmC kind ep sq A n c) by have := B5.out.range; rwa [List.toList_toArray] at this)
  simp only [Act.put, yA, yB, yC]
  go_wp2_with (first
   | (go_at_call 316; refine (HPre.out _ L6.out g B6.out).mono ?_; rintro e w7 ⟨rfl, rfl⟩)
   | (go_at_call 268; refine (fr_put kind ep sq (by omega) hep2 hsq2 S5.out (by omega) (fun z hz => HX.out z (List.mem_of_mem_drop (List.mem_of_mem_take hz)))).mono ?_; rintro e w6 ⟨g, rfl, hb, hge, hl⟩; have B6 := yH hb; have L6 := yH (show Below w.heap.size w w6 from below_chain L5.out hl); have S6 := yH (S5.out.below hl); have K6 := yH (show Blk w6 w.heap.size 359 cs1 from (K.out.below (below_chain (by have := L51.out; exact this) hl) K.out.lt)); have F6 := yH (show w6.rangeAt f 0 (fmC kind ep sq A n c) by have := (B5.out.below hl B5.out.lt).range; rwa [List.toList_toArray] at this); clear hb hl)
   | (refine wpList_load_mid rfl 359 (.tmp 8) (by rfl) f 0 (by rfl) (fmC kind ep sq A n c) _ RG.out Tryz.underlying359 rfl (fmC_info _ _ _ _ _ _) ?_; simp only [Act.put, yA, yB, yC])
   | (refine wpList_load_mid rfl 359 (.tmp 8) (by rfl) f 0 (by rfl) (fmC kind ep sq A n c) _ F6.out Tryz.underlying359 rfl (fmC_info _ _ _ _ _ _) ?_; simp only [Act.put, yA, yB, yC])
   | (refine wpl_over rfl 359 (.tmp 2) (.tmp 67) (by rfl) w.heap.size (fmC 0 0 0 none 0 0) (by rfl) (by rfl) _ cs1 K6.out (fmC_info _ _ _ _ _ _) (by rw [C1.out]; rfl) (by simp [fmC, Value.oneCell']) ?_; intro w8 hb hg hz; have B8 := yH hb; have G8 := yH hg; have Z8 := yH hz; clear hb hg hz))
  (try simp only [Exit.inBlock, Exit.then])
  refine bodyPost_ret (results_blk_tmp2 rfl _ w.heap.size rfl _ _ B8.out _ Tryz.underlying359 rfl 4 (fmC_info 0 0 0 none 0 0) rfl) rfl ?_
  have L8 := yH (show Below w.heap.size w w8 from L6.out.grown G8.out L6.out.size (fun k hk => by injection hk with hk; omega))
  exact ⟨L8.out, rfl⟩
end Go.Proofs.YtffalfacakdhkaaGreatDoor
namespace Go.Proofs.YtffalfacakdhkaaGreatDoor
open Go.RowKit Go.Maps Go.Shelf
set_option linter.unusedVariables false
set_option linter.unusedSimpArgs false
def zs4 : List Int := List.replicate 4096 0
theorem zs4_get : Hid (zs4[4]? = some ((0 : Nat) : Int) ∧ saidL (subL zs4 8 8) = 0 ∧ saidL (subL zs4 16 8) = 0 ∧ saidL (subL zs4 24 4) = 0 ∧ zs4.take 512 ≠ frL 0 0 0 (subL zs4 28 0) ∧ ∀ z ∈ zs4, 0 ≤ z ∧ z < 256) := by
 refine yH ⟨by kernel_rfl, by kernel_rfl, by kernel_rfl, by kernel_rfl, ?_, fun z hz => by have := List.eq_of_mem_replicate hz; omega⟩
 intro h
 have h1 : (zs4.take 512)[0]? = some 0 := by kernel_rfl
 rw [h] at h1
 have h2 : (frL 0 0 0 (subL zs4 28 0))[0]? = some 112 := rfl
 rw [h2] at h1
 cases h1
theorem fr_get_zs (b cap : Nat) (w : World) (hr : RdI .u8 w (some ⟨b, 0, none⟩) 4096 zs4) (hc : 4096 ≤ cap) : Calls Tryz.prog 241 #[.slice (some ⟨b, 0, none⟩) 4096 cap] w fun e w' => Below w.heap.size w w' ∧ e = .returned (.tuple #[.agg (fmC 0 0 0 none 0 0).toArray, .int .i64 0, .int .i64 4]) := by
 have h := zs4_get.out
 generalize zs4 = xs at *
 exact fr_get_m 4096 (by omega) xs b 0 cap w hr h.2.2.2.2.2 hc 0 0 0 0 h.1 h.2.1 h.2.2.1 h.2.2.2.1 (by omega) (by omega) (by omega) h.2.2.2.2.1
def RcR (W : World) (v : Value) (w' : World) : Prop := ∃ f, v = .pointer (some ⟨f, 0, none⟩) ∧ Below W.heap.size W w'
set_option maxRecDepth 100000 in
set_option maxHeartbeats 1000000 in
theorem jr_recs (l : Nat) {W : World} {b jb jx bx c cap : Nat} (hb : Boxed W bx 25 (.slice (some ⟨b, 0, none⟩) 4096 cap)) (hj : Boxed W jx 129 (.pointer (some ⟨jb, 0, none⟩))) (hJ : Blk W jb 240 (jrC c 10 8 1 0 0).toArray) (hr : RdI .u8 W (some ⟨b, 0, none⟩) 4096 zs4) (hc : 4096 ≤ cap) :
  Calls Tryz.prog 240 #[.func (.yield l) #[] #[], .pointer (some ⟨bx, 0, none⟩), .pointer (some ⟨jx, 0, none⟩)] W fun e w' => (∃ v, e = .returned v) ∧ Below W.heap.size W w' := by
 have HG := yH (fun w (h : Below W.heap.size W w) => fr_get_zs b cap w (hr.below h) hc)
 have HS := yH (show W.cell? ⟨bx, 0, none⟩ = some (.slice (some ⟨b, 0, none⟩) 4096 cap) ∧ W.cell? ⟨jx, 0, none⟩ = some (.pointer (some ⟨jb, 0, none⟩)) ∧ W.cell? ⟨jb, 4, none⟩ = some (.int .i64 0) from ⟨hb.cell, hj.cell, hJ.cell rfl⟩)
 have hcI : (4096 : Int) ≤ (cap : Int) := by omega
 clear hb hj hJ hr hc
 go_enter Tryz.func240, Tryz.ntmps240
 go_wp2
 go_loopg [7] 0 (fun (k : Nat) (v : Value) wk => W = wk)
 ·exact rfl
 ·obtain rfl := hrel
  go_upto_region 0 with fail
  refine wp_region_two (fun _ w' => w'.cell? ⟨bx, 0, none⟩ = some (.slice (some ⟨b, 0, none⟩) 4096 cap) ∧ w'.cell? ⟨jx, 0, none⟩ = some (.pointer (some ⟨jb, 0, none⟩)) ∧ w'.cell? ⟨jb, 4, none⟩ = some (.int .i64 0)) [7, 12, 13] [(0, 2), (1, 2), (2, 2), (3, 2), (4, 2), (5, 2), (6, 1)] 7 12 [(8, some 2), (9, some 2), (10, some 3), (11, some 3), (12, none), (13, none), (14, some 3), (15, some 3)] [(7, none), (8, some 2), (9, some 2), (10, some 3), (11, some 3), (13, none), (14, some 3), (15, some 3)]
   (RcR W)
   (fun a v => ((((((((((((((a.put (some 8) (.slice (some ⟨b, 0, none⟩) 4096 cap)).put (some 9) (.pointer (some ⟨jb, 0, none⟩))).put (some 10) (.pointer (some ⟨jb, 0, none⟩))).put (some 11) (.pointer (some ⟨jb, 4, none⟩))).put (some 12) (.int .i64 0)).put (some 13) (.int .i64 0)).put (some 14) (.slice (some ⟨b, 0, none⟩) 4096 cap)).put (some 15) (.tuple #[.agg (fmC 0 0 0 none 0 0).toArray, .int .i64 0, .int .i64 4])).put (some 7) (.tuple #[.agg (fmC 0 0 0 none 0 0).toArray, .int .i64 0, .int .i64 4])).put (some 16) (.agg (fmC 0 0 0 none 0 0).toArray)).put (some 17) (.int .i64 0)).put (some 18) (.int .i64 4)).put (some 4) v).put (some 5) (.int .i64 0)).put (some 6) (.int .i64 4))
   _ _ (by kernel_rfl) rfl rfl (by kernel_rfl) (by kernel_rfl) (by kernel_rfl) (by kernel_rfl) (by kernel_rfl) (by kernel_rfl) (by kernel_rfl) (by kernel_rfl) rfl rfl HS.out ?_ ?_
  ·simp only [yD, yE, yF, yG]
   (repeat (first | (refine qs_mid (v := ?_) (by rfl) ?_ ?_; rotate_left 1; (· (intro j w' hj1 hj2 hS; go_simp; (try (simp only [↓IntWalk.iteOmega]; go_simp)); (try simp (disch := omega) only [IntWalk.i64_in]); try with_reducible rfl)); simp only [Act.put, yA, yB, yC]) | (refine qs_skip (by rfl) ?_; simp only [Act.put, yA, yB, yC])))
   refine qs_nil ?_
   refine ⟨toHeld ?_, toHeld ?_⟩
   ·go_wp2_with (go_at_call 241; refine (HG.out W.drew (Below.refl _ W).drew).mono ?_; rintro e w1 ⟨hb, rfl⟩; have L1 := yH (below_chain (Below.refl W.heap.size W).drew hb); clear hb)
    refine ⟨⟨cell_below HS.out.1 L1.out, cell_below HS.out.2.1 L1.out, cell_below HS.out.2.2 L1.out⟩, ?_⟩
    (repeat (first | (refine qs_mid (v := ?_) (by rfl) ?_ ?_; rotate_left 1; (· (intro j w' hj1 hj2 hS; go_simp; (try (simp only [↓IntWalk.iteOmega]; go_simp)); (try simp (disch := omega) only [IntWalk.i64_in]); try with_reducible rfl)); simp only [Act.put, yA, yB, yC]) | (refine qs_skip (by rfl) ?_; simp only [Act.put, yA, yB, yC])))
    refine qs_act ?_
    go_wp2_with (refine wpl_alloc rfl 359 (by rfl) Tryz.zeroValue359 4 (by rfl) ?_; intro w2 cs hk hc hg hz; have B2 := yH hk; have C2 := yH hc; have L2 := yH (bl_n L1.out hg); clear hk hc hg hz)
    refine ⟨⟨cell_below HS.out.1 L2.out, cell_below HS.out.2.1 L2.out, cell_below HS.out.2.2 L2.out⟩, ?_⟩
    refine qs_act ?_
    go_wp2_with (refine wpl_over rfl 359 (.tmp 4) (.tmp 16) (by rfl) w1.heap.size (fmC 0 0 0 none 0 0) (by rfl) (by rfl) _ cs B2.out (fmC_info _ _ _ _ _ _) (by rw [C2.out]; rfl) (by simp [fmC, Value.oneCell']) ?_; intro w3 hb hg hz; have L3 := yH (bl_g L2.out hg L1.out.size); clear hb hg hz)
    refine ⟨⟨cell_below HS.out.1 L3.out, cell_below HS.out.2.1 L3.out, cell_below HS.out.2.2 L3.out⟩, ?_⟩
    (repeat (first | (refine qs_mid (v := ?_) (by rfl) ?_ ?_; rotate_left 1; (· (intro j w' hj1 hj2 hS; go_simp; (try (simp only [↓IntWalk.iteOmega]; go_simp)); (try simp (disch := omega) only [IntWalk.i64_in]); try with_reducible rfl)); simp only [Act.put, yA, yB, yC]) | (refine qs_skip (by rfl) ?_; simp only [Act.put, yA, yB, yC])))
    refine qs_nil ?_
    exact ⟨rfl, _, rfl, w1.heap.size, rfl, L3.out⟩
   ·go_wp2_with (refine wpl_alloc rfl 359 (by rfl) Tryz.zeroValue359 4 (by rfl) ?_; intro w1 cs hk hc hg hz; have B1 := yH hk; have C1 := yH hc; have L1 := yH (bl_n (Below.refl W.heap.size W).drew hg); clear hk hc hg hz)
    refine ⟨⟨cell_below HS.out.1 L1.out, cell_below HS.out.2.1 L1.out, cell_below HS.out.2.2 L1.out⟩, ?_⟩
    refine qs_act ?_
    go_wp2_with (go_at_call 241; refine (HG.out w1 L1.out).mono ?_; rintro e w2 ⟨hb, rfl⟩; have hbK := yH hb; have L2 := yH (below_chain L1.out hb); clear hb)
    refine ⟨⟨cell_below HS.out.1 L2.out, cell_below HS.out.2.1 L2.out, cell_below HS.out.2.2 L2.out⟩, ?_⟩
    (repeat (first | (refine qs_mid (v := ?_) (by rfl) ?_ ?_; rotate_left 1; (· (intro j w' hj1 hj2 hS; go_simp; (try (simp only [↓IntWalk.iteOmega]; go_simp)); (try simp (disch := omega) only [IntWalk.i64_in]); try with_reducible rfl)); simp only [Act.put, yA, yB, yC]) | (refine qs_skip (by rfl) ?_; simp only [Act.put, yA, yB, yC])))
    refine qs_act ?_
    go_wp2_with (refine wpl_over rfl 359 (.tmp 4) (.tmp 16) (by rfl) W.heap.size (fmC 0 0 0 none 0 0) (by rfl) (by rfl) _ cs (B1.out.below hbK.out B1.out.lt) (fmC_info _ _ _ _ _ _) (by rw [C1.out]; rfl) (by simp [fmC, Value.oneCell']) ?_; intro w3 hb hg hz; have L3 := yH (bl_g L2.out hg (Nat.le_refl _)); clear hb hg hz)
    refine ⟨⟨cell_below HS.out.1 L3.out, cell_below HS.out.2.1 L3.out, cell_below HS.out.2.2 L3.out⟩, ?_⟩
    (repeat (first | (refine qs_mid (v := ?_) (by rfl) ?_ ?_; rotate_left 1; (· (intro j w' hj1 hj2 hS; go_simp; (try (simp only [↓IntWalk.iteOmega]; go_simp)); (try simp (disch := omega) only [IntWalk.i64_in]); try with_reducible rfl)); simp only [Act.put, yA, yB, yC]) | (refine qs_skip (by rfl) ?_; simp only [Act.put, yA, yB, yC])))
    refine qs_nil ?_
    exact ⟨rfl, _, rfl, W.heap.size, rfl, L3.out⟩
  ·rintro v w' ⟨f, rfl, hl⟩
   have L := yH hl
   clear hl
   simp only [Act.put, yA, yB, yC]
   go_upto_region 1 with fail
   refine wp_region_qs (fun _ _ => True) [(0, some 1), (1, some 1), (2, some 1), (3, some 1), (4, some 1), (5, some 1), (6, some 1), (7, some 1), (8, some 1), (9, some 1), (10, some 1), (11, some 1), (12, some 1), (13, some 1), (14, some 1), (15, some 1), (16, some 1), (17, some 1), (18, some 1), (19, some 1), (20, some 1), (21, some 1), (22, some 1), (23, some 1), (24, some 1), (25, some 0), (26, some 0), (27, some 0), (28, some 1), (29, some 0), (30, none), (31, some 1), (32, some 1)] (by kernel_rfl) (by kernel_rfl) (by kernel_rfl) (by kernel_rfl) (by kernel_rfl) (fun _ _ _ _ _ h => h) trivial ?_
   simp only [yD, yE, yF, yG]
   (repeat (first | (refine qs_mid (v := ?_) (by rfl) ?_ ?_; rotate_left 1; (· (intro j w' hj1 hj2 hS; go_simp; (try (simp only [↓IntWalk.iteOmega]; go_simp)); (try simp (disch := omega) only [IntWalk.i64_in]); try with_reducible rfl)); simp only [Act.put, yA, yB, yC]) | (refine qs_skip (by rfl) ?_; simp only [Act.put, yA, yB, yC])))
   refine qs_act ?_
   go_wp2_with fail
   refine ⟨trivial, ?_⟩
   (repeat (first | (refine qs_mid (v := ?_) (by rfl) ?_ ?_; rotate_left 1; (· (intro j w' hj1 hj2 hS; go_simp; (try (simp only [↓IntWalk.iteOmega]; go_simp)); (try simp (disch := omega) only [IntWalk.i64_in]); try with_reducible rfl)); simp only [Act.put, yA, yB, yC]) | (refine qs_skip (by rfl) ?_; simp only [Act.put, yA, yB, yC])))
   refine qs_nil ?_
   go_wp2_with fail
   refine bodyPost_ret (results_none rfl _ _ _) rfl ?_
   exact ⟨⟨_, rfl⟩, L.out.drew⟩
end Go.Proofs.YtffalfacakdhkaaGreatDoor
