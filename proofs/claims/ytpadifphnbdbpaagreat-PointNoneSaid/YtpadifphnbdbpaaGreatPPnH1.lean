/-
  what this claim needs of: PnH1, PnH2, PnH3, PnH4, PnH5 (written by cut.py).
-/
import Derived.Test.YtpadifphnbdbpaaGreatPPnF
namespace Go.Proofs.YtpadifphnbdbpaaGreat
open Go.RowKit Go.Maps
set_option linter.unusedVariables false
set_option linter.unusedSimpArgs false
structure Hd where
  geo : Geo
  (num pages root snap : Int)
def hdC (h : Hd) : List Value := geC h.geo ++ [.int .i64 h.num, .int .i64 h.pages, .int .i64 h.root, .int .i64 h.snap]
theorem hdC_len (h : Hd) : (hdC h).length = 9 := rfl
theorem hdC_info (h : Hd) : (Tryz.prog.info? 25).map (·.size) = some (hdC h).length := by show _ = some 9; kernel_rfl
theorem hdC_one (h : Hd) : ∀ v ∈ hdC h, v.oneCell' = true := by intro v hv; simp [hdC, geC] at hv; rcases hv with rfl | rfl | rfl | rfl | rfl | rfl | rfl | rfl | rfl <;> rfl
def HdOk (h : Hd) : Prop := RightP h.geo ∧ (0 ≤ h.num ∧ h.num ≤ 1099511627776) ∧ (1 ≤ h.pages ∧ h.pages ≤ pagesI h.geo) ∧ (0 ≤ h.root ∧ h.root < h.pages) ∧ (1 ≤ h.snap ∧ h.snap ≤ 1073741824)
theorem RightP.geB {g : Geo} (h : RightP g) : GeB g := by
  have h1 := h.1
  unfold FieldsP at h1
  unfold GeB rI
  omega
/-- A head's cells in a block. -/
def HdS (b : Nat) (h : Hd) (w' : World) : Prop := w'.rangeAt b 0 (geC h.geo) ∧ w'.cell? ⟨b, 5, none⟩ = some (.int .i64 h.num) ∧ w'.cell? ⟨b, 6, none⟩ = some (.int .i64 h.pages) ∧ w'.cell? ⟨b, 7, none⟩ = some (.int .i64 h.root) ∧ w'.cell? ⟨b, 8, none⟩ = some (.int .i64 h.snap)
theorem HdS.of {b : Nat} {h : Hd} {w' : World} (hb : Blk w' b 25 (hdC h).toArray) : HdS b h w' :=
  ⟨hb.part 0 (geC h.geo) rfl, hb.cell (i := 5) rfl, hb.cell (i := 6) rfl, hb.cell (i := 7) rfl, hb.cell (i := 8) rfl⟩
section
variable {w : World}
theorem hd_within (n a b : Int) (h : a ≤ n ∧ n ≤ b) (w : World) : Calls Tryz.prog 110 #[.int .i64 n, .int .i64 a, .int .i64 b] w fun e w' => e = .returned (.bool true) ∧ w' = w := by
  have h1 := h.1
  have h2 := h.2
  clear h
  go_enter Tryz.func110, Tryz.ntmps110
  go_wp2
  go_ret
  exact ⟨rfl, rfl⟩
set_option maxRecDepth 100000 in
set_option maxHeartbeats 1000000 in
theorem hd_right {h : Hd} (hh : HdOk h) : Calls Tryz.prog 71 #[.agg (hdC h).toArray] w fun e w' => e = .returned (.bool true) ∧ Below w.heap.size w w' := by
  have HG := Lib.hid hh.1.geB
  have HP := Lib.hid (show pagesG h.geo = pagesI h.geo by unfold pagesG; rw [if_pos hh.1])
  have W1 := Lib.hid (hd_within h.pages 1 (pagesI h.geo) hh.2.2.1)
  have W2 := Lib.hid (hd_within h.root 0 (h.pages - 1) (by have := hh.2.2.2.1; omega))
  have W3 := Lib.hid (hd_within h.snap 1 1073741824 hh.2.2.2.2)
  have hpg := hh.1.1.pages
  have hpb : 1 ≤ h.pages ∧ h.pages ≤ 66700 := by have := hh.2.2.1; omega
  clear hh hpg
  go_enter Tryz.func71, Tryz.ntmps71
  go_upto_region 2 with (refine wpl_box rfl 25 (.tmp 0) rfl _ rfl ?_; intro w1 hk hg hz; have K := Lib.hid hk; have L := Lib.hid (bl_n (Below.refl _ _) hg); clear hk hg hz)
  refine wp_region_qs (fun _ w' => w'.rangeAt w.heap.size 0 (geC h.geo) ∧ w'.cell? ⟨w.heap.size, 5, none⟩ = some (.int .i64 h.num) ∧ w'.cell? ⟨w.heap.size, 6, none⟩ = some (.int .i64 h.pages) ∧ w'.cell? ⟨w.heap.size, 7, none⟩ = some (.int .i64 h.root) ∧ w'.cell? ⟨w.heap.size, 8, none⟩ = some (.int .i64 h.snap)) [(0, some 3), (1, some 4), (2, some 3), (3, some 4), (4, some 3), (5, none), (6, none), (7, some 3), (8, some 3), (9, some 4), (10, some 3), (11, some 4), (12, some 4), (13, some 3), (14, none), (15, some 4), (16, some 3), (17, some 3), (18, some 4), (19, some 3), (20, none), (21, some 4), (22, some 4)] (by kernel_rfl) (by kernel_rfl) (by kernel_rfl) (by kernel_rfl) (by kernel_rfl) (fun _ _ _ _ _ h => h) (HdS.of K.out.drew) ?_
  simp only [List.map_cons, List.map_nil, List.getD_cons_succ, List.getD_cons_zero]
  (repeat (first | ((refine qs_row (by rfl) 23 (.tmp 7) (by rfl) w.heap.size 0 (by rfl) (geC h.geo) _ (fun j w' _ h2 h => h.1) Tryz.underlying23 rfl (geC_info _) ?_); simp only [Act.put, List.setIfInBounds_toArray, List.set_cons_zero, List.set_cons_succ]) | (refine qs_now (v := ?_) (by rfl) ?_ ?_; rotate_left 1; (· (intro w' hS; go_simp; (try (simp only [↓IntWalk.iteOmega]; go_simp)); (try simp (disch := omega) only [IntWalk.i64_in]); try with_reducible rfl)); simp only [Act.put, List.setIfInBounds_toArray, List.set_cons_zero, List.set_cons_succ]) | (refine qs_run (v := ?_) (by rfl) ?_ ?_; rotate_left 1; (· (intro j w' hS; go_simp; (try (simp only [↓IntWalk.iteOmega]; go_simp)); (try simp (disch := omega) only [IntWalk.i64_in]); try with_reducible rfl)); simp only [Act.put, List.setIfInBounds_toArray, List.set_cons_zero, List.set_cons_succ]) | (refine qs_mid (v := ?_) (by rfl) ?_ ?_; rotate_left 1; (· (intro j w' hj1 hj2 hS; go_simp; (try (simp only [↓IntWalk.iteOmega]; go_simp)); (try simp (disch := omega) only [IntWalk.i64_in]); try with_reducible rfl)); simp only [Act.put, List.setIfInBounds_toArray, List.set_cons_zero, List.set_cons_succ]) | (refine qs_skip (by rfl) ?_; simp only [Act.put, List.setIfInBounds_toArray, List.set_cons_zero, List.set_cons_succ])))
  refine qs_act ?_
  go_wp2_with (go_at_call 30; refine (pagesG_any HG.out).mono ?_; rewrite [HP.out]; rintro e w3 ⟨rfl, hb⟩; have L3 := Lib.hid (below_chain L.out.drew hb); have K3 := Lib.hid (K.out.drew.below hb K.out.lt); clear hb)
  refine ⟨HdS.of K3.out, ?_⟩
  refine qs_act ?_
  go_wp2_with (go_at_call 110; refine (W1.out _).mono ?_; rintro e w4 ⟨rfl, rfl⟩)
  refine ⟨HdS.of K3.out, ?_⟩
  (repeat (first | (refine qs_now (v := ?_) (by rfl) ?_ ?_; rotate_left 1; (· (intro w' hS; go_simp; (try (simp only [↓IntWalk.iteOmega]; go_simp)); (try simp (disch := omega) only [IntWalk.i64_in]); try with_reducible rfl)); simp only [Act.put, List.setIfInBounds_toArray, List.set_cons_zero, List.set_cons_succ]) | (refine qs_run (v := ?_) (by rfl) ?_ ?_; rotate_left 1; (· (intro j w' hS; go_simp; (try (simp only [↓IntWalk.iteOmega]; go_simp)); (try simp (disch := omega) only [IntWalk.i64_in]); try with_reducible rfl)); simp only [Act.put, List.setIfInBounds_toArray, List.set_cons_zero, List.set_cons_succ]) | (refine qs_mid (v := ?_) (by rfl) ?_ ?_; rotate_left 1; (· (intro j w' hj1 hj2 hS; go_simp; (try (simp only [↓IntWalk.iteOmega]; go_simp)); (try simp (disch := omega) only [IntWalk.i64_in]); try with_reducible rfl)); simp only [Act.put, List.setIfInBounds_toArray, List.set_cons_zero, List.set_cons_succ]) | (refine qs_skip (by rfl) ?_; simp only [Act.put, List.setIfInBounds_toArray, List.set_cons_zero, List.set_cons_succ])))
  refine qs_act ?_
  go_wp2_with (go_at_call 110; refine (W2.out _).mono ?_; rintro e w4 ⟨rfl, rfl⟩)
  refine ⟨HdS.of K3.out, ?_⟩
  (repeat (first | (refine qs_now (v := ?_) (by rfl) ?_ ?_; rotate_left 1; (· (intro w' hS; go_simp; (try (simp only [↓IntWalk.iteOmega]; go_simp)); (try simp (disch := omega) only [IntWalk.i64_in]); try with_reducible rfl)); simp only [Act.put, List.setIfInBounds_toArray, List.set_cons_zero, List.set_cons_succ]) | (refine qs_run (v := ?_) (by rfl) ?_ ?_; rotate_left 1; (· (intro j w' hS; go_simp; (try (simp only [↓IntWalk.iteOmega]; go_simp)); (try simp (disch := omega) only [IntWalk.i64_in]); try with_reducible rfl)); simp only [Act.put, List.setIfInBounds_toArray, List.set_cons_zero, List.set_cons_succ]) | (refine qs_mid (v := ?_) (by rfl) ?_ ?_; rotate_left 1; (· (intro j w' hj1 hj2 hS; go_simp; (try (simp only [↓IntWalk.iteOmega]; go_simp)); (try simp (disch := omega) only [IntWalk.i64_in]); try with_reducible rfl)); simp only [Act.put, List.setIfInBounds_toArray, List.set_cons_zero, List.set_cons_succ]) | (refine qs_skip (by rfl) ?_; simp only [Act.put, List.setIfInBounds_toArray, List.set_cons_zero, List.set_cons_succ])))
  refine qs_act ?_
  go_wp2_with (go_at_call 110; refine (W3.out _).mono ?_; rintro e w4 ⟨rfl, rfl⟩)
  refine ⟨HdS.of K3.out, ?_⟩
  (repeat (first | (refine qs_now (v := ?_) (by rfl) ?_ ?_; rotate_left 1; (· (intro w' hS; go_simp; (try (simp only [↓IntWalk.iteOmega]; go_simp)); (try simp (disch := omega) only [IntWalk.i64_in]); try with_reducible rfl)); simp only [Act.put, List.setIfInBounds_toArray, List.set_cons_zero, List.set_cons_succ]) | (refine qs_run (v := ?_) (by rfl) ?_ ?_; rotate_left 1; (· (intro j w' hS; go_simp; (try (simp only [↓IntWalk.iteOmega]; go_simp)); (try simp (disch := omega) only [IntWalk.i64_in]); try with_reducible rfl)); simp only [Act.put, List.setIfInBounds_toArray, List.set_cons_zero, List.set_cons_succ]) | (refine qs_mid (v := ?_) (by rfl) ?_ ?_; rotate_left 1; (· (intro j w' hj1 hj2 hS; go_simp; (try (simp only [↓IntWalk.iteOmega]; go_simp)); (try simp (disch := omega) only [IntWalk.i64_in]); try with_reducible rfl)); simp only [Act.put, List.setIfInBounds_toArray, List.set_cons_zero, List.set_cons_succ]) | (refine qs_skip (by rfl) ?_; simp only [Act.put, List.setIfInBounds_toArray, List.set_cons_zero, List.set_cons_succ])))
  refine qs_nil ?_
  go_wp2_with fail
  go_ret
  exact ⟨rfl, L3.out⟩
def nbP (b : Nat) : List Value := [.pointer (some ⟨b, 0, none⟩), .pointer (some ⟨b, 1, none⟩), .pointer (some ⟨b, 2, none⟩), .pointer (some ⟨b, 3, none⟩), .pointer (some ⟨b, 4, none⟩), .pointer (some ⟨b, 6, none⟩), .pointer (some ⟨b, 7, none⟩), .pointer (some ⟨b, 8, none⟩)]
theorem nbP_info (b : Nat) : (Tryz.prog.info? 157).map (·.size) = some (nbP b).length := by show _ = some 8; kernel_rfl
set_option maxRecDepth 100000 in
set_option maxHeartbeats 1000000 in
theorem hd_numbers (b : Nat) (w : World) : Calls Tryz.prog 72 #[.pointer (some ⟨b, 0, none⟩)] w fun e w' => e = .returned (.agg (nbP b).toArray) ∧ Below w.heap.size w w' := by
  go_enter Tryz.func72, Tryz.ntmps72
  go_upto_region 2 with (refine wpl_alloc rfl 157 (by rfl) Tryz.zeroValue157 8 (by rfl) ?_; intro w1 cs1 hk hc hg hz; have K := Lib.hid hk; have C1 := Lib.hid hc; have L := Lib.hid (bl_n (Below.refl _ _) hg); clear hk hc hg hz; simp only [Act.put, List.setIfInBounds_toArray, List.set_cons_zero, List.set_cons_succ])
  refine wp_region_qs (fun _ w' => True) [(0, some 0), (1, some 0), (2, some 0), (3, some 0), (4, some 0), (5, some 0), (6, some 0), (7, some 0), (8, some 0), (9, some 0), (10, some 0), (11, some 0), (12, some 0), (13, some 0), (14, some 0), (15, some 0), (16, some 0), (17, some 0), (18, some 0), (19, some 0), (20, some 0), (21, some 0), (22, some 0), (23, some 0), (24, some 0), (25, none)] (by kernel_rfl) (by kernel_rfl) (by kernel_rfl) (by kernel_rfl) (by kernel_rfl) (fun _ _ _ _ _ h => h) trivial ?_
  simp only [List.map_cons, List.map_nil, List.getD_cons_succ, List.getD_cons_zero]
  (repeat (first | (refine qs_now (v := ?_) (by rfl) ?_ ?_; rotate_left 1; (· (intro w' hS; go_simp; (try (simp only [↓IntWalk.iteOmega]; go_simp)); (try simp (disch := omega) only [IntWalk.i64_in]); try with_reducible rfl)); simp only [Act.put, List.setIfInBounds_toArray, List.set_cons_zero, List.set_cons_succ]) | (refine qs_run (v := ?_) (by rfl) ?_ ?_; rotate_left 1; (· (intro j w' hS; go_simp; (try (simp only [↓IntWalk.iteOmega]; go_simp)); (try simp (disch := omega) only [IntWalk.i64_in]); try with_reducible rfl)); simp only [Act.put, List.setIfInBounds_toArray, List.set_cons_zero, List.set_cons_succ]) | (refine qs_mid (v := ?_) (by rfl) ?_ ?_; rotate_left 1; (· (intro j w' hj1 hj2 hS; go_simp; (try (simp only [↓IntWalk.iteOmega]; go_simp)); (try simp (disch := omega) only [IntWalk.i64_in]); try with_reducible rfl)); simp only [Act.put, List.setIfInBounds_toArray, List.set_cons_zero, List.set_cons_succ]) | (refine qs_skip (by rfl) ?_; simp only [Act.put, List.setIfInBounds_toArray, List.set_cons_zero, List.set_cons_succ])))
  refine qs_act ?_
  go_wp2_with (refine wpl_over rfl 157 (.tmp 2) (.tmp 31) (by rfl) w.heap.size (nbP b) (by rfl) (by rfl) _ cs1 K.out.drew (nbP_info b) (by rw [C1.out]; rfl) (by simp [nbP, Value.oneCell']) ?_; intro w2 hb hg hz; have B2 := Lib.hid hb; have L2 := Lib.hid (show Below w.heap.size w w2 from L.out.drew.grown hg L.out.size (fun k hk => by injection hk with hk; omega)); clear hb hg hz)
  refine ⟨trivial, ?_⟩
  refine qs_nil ?_
  go_wp2_with fail
  (try simp only [Exit.inBlock, Exit.then])
  refine bodyPost_ret (results_blk rfl _ w.heap.size rfl _ _ B2.out _ Tryz.underlying157 rfl 8 (nbP_info b) rfl) rfl ?_
  exact ⟨rfl, L2.out⟩
end
end Go.Proofs.YtpadifphnbdbpaaGreat
namespace Go.Proofs.YtpadifphnbdbpaaGreat
open Go.RowKit Go.Maps
set_option linter.unusedVariables false
set_option linter.unusedSimpArgs false
def nbL (h : Hd) : List Int := [h.geo.vir, h.geo.segs, h.geo.seg, h.geo.uni, h.geo.jou, h.pages, h.root, h.snap]
def nbZ (h : Hd) (i : Nat) : Nat := ((nbL h).getD i 0).toNat
def nbO (i : Nat) : Nat := if i < 5 then i else i + 1
def hdB (h : Hd) (k : Nat) : List Int := (List.range k).flatMap fun i => beL (nbZ h i) 4
theorem hdB_succ (h : Hd) (k : Nat) : hdB h (k + 1) = hdB h k ++ beL (nbZ h k) 4 := by
  unfold hdB
  rw [List.range_succ, List.flatMap_append]
  simp
theorem hdB_len (h : Hd) (k : Nat) : (hdB h k).length = 4 * k := by
  induction k with
  | zero => rfl
  | succ k ih => rw [hdB_succ, List.length_append, ih, beL_len]; omega
theorem hdB_bytes (h : Hd) (k : Nat) : ∀ z ∈ hdB h k, 0 ≤ z ∧ z < 256 := by
  intro z hz
  obtain ⟨i, _, hz⟩ := List.mem_flatMap.1 hz
  exact beL_bytes _ _ z hz
theorem HdOk.nb {h : Hd} (hh : HdOk h) {i : Nat} (hi : i < 8) : (hdC h)[nbO i]? = some (.int .i64 (nbZ h i : Int)) ∧ nbZ h i ≤ 1073741824 := by
  have h1 := hh.1.1
  have hp := h1.pages
  unfold FieldsP at h1
  obtain ⟨_, _, h2, h3, h4⟩ := hh
  have k : ∀ z : Int, 0 ≤ z → ((z.toNat : Nat) : Int) = z := fun z hz => by omega
  match i, hi with
  | 0, _ => exact ⟨by show some (Value.int .i64 h.geo.vir) = some (.int .i64 ((h.geo.vir.toNat : Nat) : Int)); rw [k _ (by omega)], by show h.geo.vir.toNat ≤ _; omega⟩
  | 1, _ => exact ⟨by show some (Value.int .i64 h.geo.segs) = some (.int .i64 ((h.geo.segs.toNat : Nat) : Int)); rw [k _ (by omega)], by show h.geo.segs.toNat ≤ _; omega⟩
  | 2, _ => exact ⟨by show some (Value.int .i64 h.geo.seg) = some (.int .i64 ((h.geo.seg.toNat : Nat) : Int)); rw [k _ (by omega)], by show h.geo.seg.toNat ≤ _; omega⟩
  | 3, _ => exact ⟨by show some (Value.int .i64 h.geo.uni) = some (.int .i64 ((h.geo.uni.toNat : Nat) : Int)); rw [k _ (by omega)], by show h.geo.uni.toNat ≤ _; omega⟩
  | 4, _ => exact ⟨by show some (Value.int .i64 h.geo.jou) = some (.int .i64 ((h.geo.jou.toNat : Nat) : Int)); rw [k _ (by omega)], by show h.geo.jou.toNat ≤ _; omega⟩
  | 5, _ => exact ⟨by show some (Value.int .i64 h.pages) = some (.int .i64 ((h.pages.toNat : Nat) : Int)); rw [k _ (by omega)], by show h.pages.toNat ≤ _; omega⟩
  | 6, _ => exact ⟨by show some (Value.int .i64 h.root) = some (.int .i64 ((h.root.toNat : Nat) : Int)); rw [k _ (by omega)], by show h.root.toNat ≤ _; omega⟩
  | 7, _ => exact ⟨by show some (Value.int .i64 h.snap) = some (.int .i64 ((h.snap.toNat : Nat) : Int)); rw [k _ (by omega)], by show h.snap.toNat ≤ _; omega⟩
theorem nbP_at (b i : Nat) (hi : i < 8) : (nbP b).toArray[i]? = some (.pointer (some ⟨b, nbO i, none⟩)) := by
  match i, hi with
  | 0, _ | 1, _ | 2, _ | 3, _ | 4, _ | 5, _ | 6, _ | 7, _ => rfl
theorem idx8 (b i : Nat) (hi : i < 8) (w : World) : (Instr.index 157 (.agg (nbP b).toArray) (.int .i64 (i : Int))).run Tryz.prog w = .ok (.pointer (some ⟨b, nbO i, none⟩)) w :=
  idx_arrP _ _ 8 _ _ i _ Tryz.underlying157 Tryz.sizeOf156 Tryz.isAgg156 hi (nbP_at b i hi) w
theorem beL4 (z : Nat) : bV (beL z 4) = [.int .u8 ((z : Int) / 16777216 % 256), .int .u8 ((z : Int) / 65536 % 256), .int .u8 ((z : Int) / 256 % 256), .int .u8 ((z : Int) % 256)] := by
  simp [bV, beL, List.range_succ]
structure HpI (w : World) (h : Hd) (f i : Nat) (v : Value) (W : World) : Prop where
  head : Blk W w.heap.size 25 (hdC h).toArray
  frm : Blk W f 155 #[.int .i64 1, .int .i64 h.num, .int .i64 0, v]
  row : W.ownsRow (f + 1) 5 1 v (4 * i) (bV (hdB h i))
  low : Below w.heap.size w W
  ge : w.heap.size < f
theorem own_tchP {w w' : World} {base n sz : Nat} {e : TypeId} {v : Value} {xs : List Value} {T : List Nat} (h : w.ownsRow base e sz v n xs) (hb : Tch T w w') (hT : ∀ b, v.ownBlock = some b → b ∉ T) : w'.ownsRow base e sz v n xs := by
  refine ⟨h.1, h.2.imp id ?_⟩
  rintro ⟨g, cap, cur, e1, a1, a2, r⟩
  have h3 : Blk w g e cur := a2
  exact ⟨g, cap, cur, e1, a1, h3.tch hb (hT g (by rw [e1]; rfl)), r⟩
theorem HpI.below {w : World} {h : Hd} {f i : Nat} {v : Value} {W W' : World} (H : HpI w h f i v W) (hb : Below W.heap.size W W') : HpI w h f i v W' :=
  ⟨H.head.below hb H.head.lt, H.frm.below hb H.frm.lt, own_below H.row hb, below_chain H.low hb, H.ge⟩
section
variable {w : World}
def HpL (w : World) (h : Hd) (f gk : Nat) (iv : Value) (W : World) : Prop := ∃ i v, iv = .int .i64 ((i : Nat) : Int) ∧ i + gk ≤ 8 ∧ 8 ≤ i + gk ∧ HpI w h f i v W
set_option maxRecDepth 100000 in
set_option maxHeartbeats 2000000 in
theorem hd_put {h : Hd} (hh : HdOk h) : Calls Tryz.prog 31 #[.agg (hdC h).toArray] w (FpPost w 1 h.num.toNat 0 (hdB h 8)) := by
  have HH := Lib.hid hh
  have hnb : 0 ≤ h.num ∧ h.num ≤ 1099511627776 := hh.2.1
  clear hh
  go_enter Tryz.func31, Tryz.ntmps31
  go_upto_region 5 with (first
    | (refine wpl_over rfl 155 (.tmp 4) (.tmp 12) (by rfl) w3.heap.size [.int .i64 1, .int .i64 h.num, .int .i64 0, .slice none 0 0] (by rfl) (by rfl) _ cs4 F4.out (fmC_info 0 0 0 none 0 0) (by rw [C4.out]; rfl) (by simp [Value.oneCell']) ?_; intro w5 hb hg hz; have F5 := Lib.hid hb; have K5 := Lib.hid (K4.out.grown hg (by have := K3.out.lt; simp; omega)); have L5 := Lib.hid (show Below w.heap.size w w5 from L4.out.grown hg L4.out.size (fun k hk => by injection hk with hk; have := K3.out.lt; omega)); clear hb hg hz)
    | (refine wpl_alloc rfl 155 (by rfl) Tryz.zeroValue155 4 (by rfl) ?_; intro w4 cs4 hk hc hg hz; have F4 := Lib.hid hk; have C4 := Lib.hid hc; have K4 := Lib.hid (K3.out.grown hg (by simp)); have L4 := Lib.hid (bl_n L3.out hg); clear hk hc hg hz c1 rg; simp only [Act.put, List.setIfInBounds_toArray, List.set_cons_zero, List.set_cons_succ])
    | (go_at_call 72; refine (hd_numbers w.heap.size _).mono ?_; rintro e w6 ⟨rfl, hb⟩; have L6 := Lib.hid (below_chain L5.out hb); have F6 := Lib.hid (F5.out.below hb F5.out.lt); have K6 := Lib.hid (K5.out.below hb K5.out.lt); clear hb)
    | (go_at_call 71; refine (hd_right HH.out).mono ?_; rintro e w3 ⟨rfl, hb⟩; have L3 := Lib.hid (below_chain L.out hb); have K3 := Lib.hid (K.out.below hb K.out.lt); have c1 : w3.cell? ⟨w.heap.size, 5, none⟩ = some (.int .i64 h.num) := K3.out.cell rfl; clear hb)
    | (refine wpList_load_mid rfl 25 (.tmp 1) (by rfl) w.heap.size 0 (by rfl) (hdC h) _ rg Tryz.underlying25 rfl (hdC_info _) ?_; simp only [Act.put, List.setIfInBounds_toArray, List.set_cons_zero, List.set_cons_succ])
    | (refine wpl_box rfl 25 (.tmp 0) rfl _ rfl ?_; intro w1 hk hg hz; have K := Lib.hid hk; have L := Lib.hid (bl_n (Below.refl _ _) hg); have rg : w1.rangeAt w.heap.size 0 (hdC h) := (by have := hk.range; rwa [List.toList_toArray] at this); clear hk hg hz))
  have I6 := Lib.hid (show HpI w h w3.heap.size 0 (.slice none 0 0) w6 from ⟨K6.out, F6.out, World.ownsRow_nil _ _ _ _, L6.out, Nat.lt_of_lt_of_le K3.out.lt (Nat.le_refl _)⟩)
  generalize w3.heap.size = f at *
  clear K6 F6 K5 F5 L5 F4 C4 K4 L4 L3 K3 K L
  go_loopg [14] 8 (fun gk iv W => HpL w h f gk iv W)
  case atStart => exact ⟨0, _, rfl, by omega, by omega, I6.out⟩
  case round =>
    obtain ⟨i, v, rfl, hi1, hi2, hI⟩ := hrel
    have I := Lib.hid hI
    have HI := Lib.hid (And.intro hi1 hi2)
    clear hI I6 hi1 hi2
    by_cases hlt : i < 8
    · have ix := idx8 w.heap.size i hlt
      obtain ⟨hz1, hz2⟩ := HH.out.nb hlt
      have hltI : (i : Int) < 8 := by omega
      have HCz := Lib.hid hz1
      have CZ := Lib.hid (I.out.head.cell (i := nbO i) (by simpa using hz1))
      have HB := Lib.hid (hdB_succ h i)
      have HLt := Lib.hid hlt
      clear hz1 hlt
      generalize nbZ h i = z at *
      go_upto_region 7 with fail
      refine wp_region_qs (fun k w' => k ≤ 2 → w'.cell? ⟨f, 3, none⟩ = some v ∧ w'.cell? ⟨w.heap.size, nbO i, none⟩ = some (.int .i64 (z : Int))) [(0, some 2), (1, some 1), (2, some 2), (3, some 2), (4, some 2), (5, some 2), (6, some 1), (7, some 2), (8, some 2), (9, some 2), (10, some 2), (11, some 1), (12, some 2), (13, some 2), (14, some 2), (15, some 2), (16, some 1), (17, some 2), (18, some 2), (19, some 2), (20, some 1), (21, none), (22, none), (23, some 2), (24, none)] (by kernel_rfl) (by kernel_rfl) (by kernel_rfl) (by kernel_rfl) (by kernel_rfl) (fun _ _ _ _ _ h => h) (fun _ => ⟨I.out.frm.drew.cell rfl, CZ.out⟩) ?_
      simp only [List.map_cons, List.map_nil, List.getD_cons_succ, List.getD_cons_zero]
      (repeat (first | ((refine qs_mid (v := ?_) (by rfl) ?_ ?_; rotate_left 1; (· (intro j w' hj1 hj2 hS; have hS1 := (hS (by omega)).1; have hS2 := (hS (by omega)).2; clear hS; go_simp; (try (simp only [↓IntWalk.iteOmega]; go_simp)); (try simp (disch := omega) only [IntWalk.i64_in]); try with_reducible rfl))); simp only [Act.put, List.setIfInBounds_toArray, List.set_cons_zero, List.set_cons_succ]) | (refine qs_now (v := ?_) (by rfl) ?_ ?_; rotate_left 1; (· (intro w' hS; go_simp; (try (simp only [↓IntWalk.iteOmega]; go_simp)); (try simp (disch := omega) only [IntWalk.i64_in]); try with_reducible rfl)); simp only [Act.put, List.setIfInBounds_toArray, List.set_cons_zero, List.set_cons_succ]) | (refine qs_run (v := ?_) (by rfl) ?_ ?_; rotate_left 1; (· (intro j w' hS; go_simp; (try (simp only [↓IntWalk.iteOmega]; go_simp)); (try simp (disch := omega) only [IntWalk.i64_in]); try with_reducible rfl)); simp only [Act.put, List.setIfInBounds_toArray, List.set_cons_zero, List.set_cons_succ]) | (refine qs_mid (v := ?_) (by rfl) ?_ ?_; rotate_left 1; (· (intro j w' hj1 hj2 hS; go_simp; (try (simp only [↓IntWalk.iteOmega]; go_simp)); (try simp (disch := omega) only [IntWalk.i64_in]); try with_reducible rfl)); simp only [Act.put, List.setIfInBounds_toArray, List.set_cons_zero, List.set_cons_succ]) | (refine qs_skip (by rfl) ?_; simp only [Act.put, List.setIfInBounds_toArray, List.set_cons_zero, List.set_cons_succ])))
      refine qs_act ?_
      go_wp2_with fail
      have I7 := Lib.hid (I.out.below ((Below.refl _ wr).alloc (Nat.le_refl _) (Obj.cells #[.int .u8 ((z : Int) / 16777216), .int .u8 ((z : Int) / 65536 % 256), .int .u8 ((z : Int) / 256 % 256), .int .u8 ((z : Int) % 256)] 5)).drew)
      refine ⟨fun _ => ⟨I7.out.frm.cell rfl, I7.out.head.cell (by have := HCz.out; simpa using this)⟩, ?_⟩
      refine qs_act ?_
      have AT := Lib.hid (own_atD I7.out.row)
      go_wp2_with (refine app_src rfl (.tmp 18) (.tmp 38) 78 (by rfl) (f + 1) 5 _ 1 1 Tryz.underlying78 infoByte rfl (by omega) v (4 * i) _ (by rfl) I7.out.row _ 4 _ (by rfl) (src_four (Blk.made _ _ _) 4) (by intro y hy; simp at hy; rcases hy with rfl | rfl | rfl | rfl <;> rfl) (by have := HLt.out; omega) (by have := HLt.out; omega) (by have := I7.out.frm.lt; exact this) ?_; intro v8 w8 ho hg _; have O8 := Lib.hid ho; have F8 := Lib.hid (I7.out.frm.grown hg (fun e => by have := AT.out f e.symm; omega)); have H8 := Lib.hid (I7.out.head.grown hg (fun e => by have := AT.out _ e.symm; have := I7.out.ge; omega)); have L8 := Lib.hid (show Below w.heap.size w w8 from I7.out.low.grown hg I7.out.low.size (fun k hk => by have := AT.out k hk; have := I7.out.ge; omega)); clear ho hg; simp only [Act.put, List.setIfInBounds_toArray, List.set_cons_zero, List.set_cons_succ])
      refine ⟨fun _ => ⟨F8.out.cell rfl, H8.out.cell (by have := HCz.out; simpa using this)⟩, ?_⟩
      (repeat (first | (refine qs_now (v := ?_) (by rfl) ?_ ?_; rotate_left 1; (· (intro w' hS; go_simp; (try (simp only [↓IntWalk.iteOmega]; go_simp)); (try simp (disch := omega) only [IntWalk.i64_in]); try with_reducible rfl)); simp only [Act.put, List.setIfInBounds_toArray, List.set_cons_zero, List.set_cons_succ]) | (refine qs_run (v := ?_) (by rfl) ?_ ?_; rotate_left 1; (· (intro j w' hS; go_simp; (try (simp only [↓IntWalk.iteOmega]; go_simp)); (try simp (disch := omega) only [IntWalk.i64_in]); try with_reducible rfl)); simp only [Act.put, List.setIfInBounds_toArray, List.set_cons_zero, List.set_cons_succ]) | (refine qs_mid (v := ?_) (by rfl) ?_ ?_; rotate_left 1; (· (intro j w' hj1 hj2 hS; go_simp; (try (simp only [↓IntWalk.iteOmega]; go_simp)); (try simp (disch := omega) only [IntWalk.i64_in]); try with_reducible rfl)); simp only [Act.put, List.setIfInBounds_toArray, List.set_cons_zero, List.set_cons_succ]) | (refine qs_skip (by rfl) ?_; simp only [Act.put, List.setIfInBounds_toArray, List.set_cons_zero, List.set_cons_succ])))
      refine qs_act ?_
      obtain ⟨A8, p8, hv8, _⟩ := own_slice O8.out
      subst hv8
      have fr8 := F8.out.free 3
      have c8 : w8.cell? ⟨f, 3, none⟩ = some v := F8.out.cell rfl
      obtain ⟨w9, h9⟩ : ∃ W, W = w8.setCell ⟨f, 3, none⟩ (.slice A8 (4 * i + 4) p8) := ⟨_, rfl⟩
      have F9 := Lib.hid (show Blk w9 f 155 #[.int .i64 1, .int .i64 h.num, .int .i64 0, (.slice A8 (4 * i + 4) p8)] by rw [h9]; exact F8.out.put 3 (.slice A8 (4 * i + 4) p8))
      have T9 := Lib.hid (show Tch [f] w8 w9 by rw [h9]; exact tch_g (grown_put w8 _ _))
      have H9 := Lib.hid (H8.out.tch T9.out (by have := I.out.ge; simp; omega))
      have O9 := Lib.hid (own_tchP O8.out T9.out (fun b hb hm => by have := own_atD O8.out b hb; simp at hm; omega))
      have L9 := Lib.hid (L8.out.trans (T9.out.toBelow L8.out.size (fun k hk => by simp at hk; have := I.out.ge; omega)))
      go_wp2_with fail
      subst h9
      refine ⟨fun h3 => absurd h3 (by omega), ?_⟩
      refine qs_nil ?_
      go_wp2_with fail
      go_roundg (gk - 1)
      case measure => have := HI.out; have := HLt.out; omega
      case rel => exact ⟨i + 1, (.slice A8 (4 * i + 4) p8), by go_num, by have := HI.out; have := HLt.out; omega, by have := HI.out; have := HLt.out; omega, H9.out, F9.out, by rw [HB.out, bV_app, beL4, show (z : Int) / 16777216 % 256 = (z : Int) / 16777216 by omega]; exact O9.out, L9.out, I.out.ge⟩
    · obtain rfl : i = 8 := by have := HI.out; omega
      have hnI : ¬ ((8 : Nat) : Int) < 8 := by omega
      obtain ⟨A, c, hv, hnc⟩ := own_slice I.out.row
      subst hv
      have RG := Lib.hid (show wr.rangeAt f 0 (fmC 1 h.num.toNat 0 A 32 c) by
        have := I.out.frm.range
        unfold fmC
        rw [show ((h.num.toNat : Nat) : Int) = h.num by omega]
        rwa [List.toList_toArray] at this)
      have SR := Lib.hid (Src.of_own I.out.row)
      go_wp2_with (first
        | (go_at_call 73; refine (fr_put 1 h.num.toNat 0 (by omega) (by omega) (by omega) SR.out (by omega) (hdB_bytes h 8)).mono ?_; rintro e w8 ⟨g, rfl, hb, hge, hl⟩; have B8 := Lib.hid hb; have L8 := Lib.hid (below_chain I.out.low hl); have G8 := Lib.hid (Nat.le_trans I.out.low.size hge); clear hb hl hge)
        | (refine wpList_load_mid rfl 155 (.tmp 4) (by rfl) f 0 (by rfl) (fmC 1 h.num.toNat 0 A 32 c) _ RG.out Tryz.underlying155 rfl (fmC_info _ _ _ _ _ _) ?_; simp only [Act.put, List.setIfInBounds_toArray, List.set_cons_zero, List.set_cons_succ]))
      go_ret2
      exact ⟨g, rfl, B8.out, G8.out, L8.out⟩
end
end Go.Proofs.YtpadifphnbdbpaaGreat
namespace Go.Proofs.YtpadifphnbdbpaaGreat
open Go.RowKit Go.Maps
set_option linter.unusedVariables false
set_option linter.unusedSimpArgs false
def zHd : Hd := ⟨⟨0, 0, 0, 0, 0⟩, 0, 0, 0, 0⟩
theorem subL_app_left (a b : List Int) (p q : Nat) (h : p + q ≤ a.length) : subL (a ++ b) p q = subL a p q := by
  unfold subL
  rw [List.drop_append, List.take_append_of_le_length (by rw [List.length_drop]; omega)]
theorem subL_app_right (a b : List Int) (p q n : Nat) (h : a.length = n) : subL (a ++ b) (n + p) q = subL b p q := by
  unfold subL
  rw [List.drop_append, h, List.drop_eq_nil_of_le (by omega), List.nil_append]
  congr 2
  omega
theorem subL_all (a : List Int) (q : Nat) (h : a.length = q) : subL a 0 q = a := by
  unfold subL
  rw [List.drop_zero, List.take_of_length_le (by omega)]
section
variable (kind ep sq : Nat) (ds : List Int)
theorem frL_form : frL kind ep sq ds = [112, 101, 97, 116] ++ ([(kind : Int), 0, 0, 0] ++ (beL ep 8 ++ (beL sq 8 ++ (beL ds.length 4 ++ (ds ++ (beL (crcB (bodyL kind ep sq ds)).toNat 4 ++ List.replicate (512 - (32 + ds.length)) 0)))))) := by
  unfold frL sumL
  rw [show bodyL kind ep sq ds = [112, 101, 97, 116] ++ [(kind : Int), 0, 0, 0] ++ beL ep 8 ++ beL sq 8 ++ beL ds.length 4 ++ ds from rfl]
  simp only [List.append_assoc]
theorem frL_kind : (frL kind ep sq ds)[4]? = some (kind : Int) := by rw [frL_form]; rfl
theorem frL_ep : subL (frL kind ep sq ds) 8 8 = beL ep 8 := by
  rw [frL_form]
  show subL _ (4 + (4 + 0)) 8 = _
  rw [subL_app_right _ _ _ _ 4 rfl, subL_app_right _ _ _ _ 4 rfl, subL_app_left _ _ _ _ (by rw [beL_len]; omega), subL_all _ _ (by rw [beL_len])]
theorem frL_sq : subL (frL kind ep sq ds) 16 8 = beL sq 8 := by
  rw [frL_form]
  show subL _ (4 + (4 + (8 + 0))) 8 = _
  rw [subL_app_right _ _ _ _ 4 rfl, subL_app_right _ _ _ _ 4 rfl, subL_app_right _ _ _ _ 8 (beL_len _ _), subL_app_left _ _ _ _ (by rw [beL_len]; omega), subL_all _ _ (by rw [beL_len])]
theorem frL_n : subL (frL kind ep sq ds) 24 4 = beL ds.length 4 := by
  rw [frL_form]
  show subL _ (4 + (4 + (8 + (8 + 0)))) 4 = _
  rw [subL_app_right _ _ _ _ 4 rfl, subL_app_right _ _ _ _ 4 rfl, subL_app_right _ _ _ _ 8 (beL_len _ _), subL_app_right _ _ _ _ 8 (beL_len _ _), subL_app_left _ _ _ _ (by rw [beL_len]; omega), subL_all _ _ (by rw [beL_len])]
theorem frL_ds : subL (frL kind ep sq ds) 28 ds.length = ds := by
  rw [frL_form]
  show subL _ (4 + (4 + (8 + (8 + (4 + 0))))) ds.length = _
  rw [subL_app_right _ _ _ _ 4 rfl, subL_app_right _ _ _ _ 4 rfl, subL_app_right _ _ _ _ 8 (beL_len _ _), subL_app_right _ _ _ _ 8 (beL_len _ _), subL_app_right _ _ _ _ 4 (beL_len _ _), subL_app_left _ _ _ _ (by omega), subL_all _ _ rfl]
end
section
variable {w : World}
/-- A row that is no frame. -/
def NoFr (xs : List Int) : Prop := ∃ kind ep sq n : Nat, xs[4]? = some (kind : Int) ∧ saidL (subL xs 8 8) = ep ∧ saidL (subL xs 16 8) = sq ∧ saidL (subL xs 24 4) = n ∧ ep ≤ 1099511627776 ∧ sq ≤ 1099511627776 ∧ n ≤ 480 ∧ xs ≠ frL kind ep sq (subL xs 28 n)
theorem noFr_zero : NoFr (List.replicate 512 0) := by
  have h : ∀ p q, p + q ≤ 512 → subL (List.replicate 512 0) p q = List.replicate q 0 := fun p q hq => by
    unfold subL
    rw [List.drop_replicate, List.take_replicate, Nat.min_eq_left (by omega)]
  refine ⟨0, 0, 0, 0, ?_, ?_, ?_, ?_, by omega, by omega, by omega, ?_⟩
  · rw [List.getElem?_replicate, if_pos (by omega)]; rfl
  · rw [h _ _ (by omega)]; rfl
  · rw [h _ _ (by omega)]; rfl
  · rw [h _ _ (by omega)]; rfl
  · rw [frL_form]
    intro h0
    have h1 := congrArg (fun l : List Int => l[0]?) h0
    have h2 : (List.replicate 512 (0 : Int))[0]? = some 0 := by rw [List.getElem?_replicate, if_pos (by omega)]
    have h3 : some (0 : Int) = some 112 := h2.symm.trans h1
    injection h3 with h3
    omega
set_option maxRecDepth 100000 in
set_option maxHeartbeats 1000000 in
theorem hd_get_bad (xs : List Int) (b off cap : Nat) (w : World) (hr : RdI .u8 w (some ⟨b, off, none⟩) 512 xs) (hX : ∀ z ∈ xs, 0 ≤ z ∧ z < 256) (hc : 512 ≤ cap) (hN : NoFr xs) :
    Calls Tryz.prog 90 #[.slice (some ⟨b, off, none⟩) 512 cap] w fun e w' => e = .returned (.tuple #[.agg (hdC zHd).toArray, .int .i64 4]) ∧ Below w.heap.size w w' := by
  obtain ⟨kind, ep, sq, n, h1, h2, h3, h4, h5, h6, h7, h8⟩ := hN
  have G := Lib.hid (fun W (hb : Below w.heap.size w W) => show Calls Tryz.prog 127 #[.slice (some ⟨b, off, none⟩) 512 cap] W fun e W' => e = .returned (.tuple #[.agg (fmC 0 0 0 none 0 0).toArray, .int .i64 0, .int .i64 4]) ∧ Below W.heap.size W W' from
    (fr_get xs b off cap W (hr.below hb) hX hc kind ep sq n h1 h2 h3 h4 h5 h6 h7).mono (by
      rintro e W' ⟨hb, ⟨he, _⟩ | ⟨_, he⟩⟩
      · exact absurd he h8
      · exact ⟨he, hb⟩))
  clear h1 h2 h3 h4 h5 h6 h7 h8 hr hX hc
  go_enter Tryz.func90, Tryz.ntmps90
  go_upto_region 3 with (first
    | (go_at_call 127; refine (G.out _ L2.out).mono ?_; rintro e w3 ⟨rfl, hb⟩; have L3 := Lib.hid (below_chain L2.out hb); have K3 := Lib.hid (K2.out.below hb K2.out.lt); clear hb)
    | (refine wpl_alloc rfl 25 (by rfl) Tryz.zeroValue25 9 (by rfl) ?_; intro w2 cs2 hk hc hg hz; have K2 := Lib.hid (K.out.grown hg (by simp)); have L2 := Lib.hid (bl_n L.out hg); clear hk hc hg hz; simp only [Act.put, List.setIfInBounds_toArray, List.set_cons_zero, List.set_cons_succ])
    | (refine wpl_alloc rfl 25 (by rfl) Tryz.zeroValue25 9 (by rfl) ?_; intro w1 cs1 hk hc hg hz; have K := Lib.hid hk; have C1 := Lib.hid hc; have L := Lib.hid (bl_n (Below.refl _ _) hg); clear hk hc hg hz; simp only [Act.put, List.setIfInBounds_toArray, List.set_cons_zero, List.set_cons_succ])
    | (refine wpl_over rfl 155 (.tmp 5) (.tmp 17) (by rfl) w3.heap.size (fmC 0 0 0 none 0 0) (by rfl) (by rfl) _ cs4 F4.out (fmC_info 0 0 0 none 0 0) (by rw [C4.out]; rfl) (by simp [fmC, Value.oneCell']) ?_; intro w5 hb hg hz; have K5 := Lib.hid (K4.out.grown hg (by have := K3.out.lt; simp; omega)); have L5 := Lib.hid (show Below w.heap.size w w5 from L4.out.grown hg L4.out.size (fun k hk => by injection hk with hk; have := K3.out.lt; omega)); clear hb hg hz)
    | (refine wpl_alloc rfl 155 (by rfl) Tryz.zeroValue155 4 (by rfl) ?_; intro w4 cs4 hk hc hg hz; have F4 := Lib.hid hk; have C4 := Lib.hid hc; have K4 := Lib.hid (K3.out.grown hg (by simp)); have L4 := Lib.hid (bl_n L3.out hg); clear hk hc hg hz; simp only [Act.put, List.setIfInBounds_toArray, List.set_cons_zero, List.set_cons_succ]))
  refine wp_region_qs (fun _ w' => True) [(0, some 1), (1, some 1), (2, some 1), (3, some 1), (4, some 1), (5, some 1), (6, some 1), (7, some 1), (8, some 1), (9, some 0), (10, some 1), (11, some 1), (12, some 1), (13, none), (14, some 1), (15, some 1), (16, some 1), (17, some 1)] (by kernel_rfl) (by kernel_rfl) (by kernel_rfl) (by kernel_rfl) (by kernel_rfl) (fun _ _ _ _ _ h => h) trivial ?_
  simp only [List.map_cons, List.map_nil, List.getD_cons_succ, List.getD_cons_zero]
  (repeat (first | (refine qs_now (v := ?_) (by rfl) ?_ ?_; rotate_left 1; (· (intro w' hS; go_simp; (try (simp only [↓IntWalk.iteOmega]; go_simp)); (try simp (disch := omega) only [IntWalk.i64_in]); try with_reducible rfl)); simp only [Act.put, List.setIfInBounds_toArray, List.set_cons_zero, List.set_cons_succ]) | (refine qs_run (v := ?_) (by rfl) ?_ ?_; rotate_left 1; (· (intro j w' hS; go_simp; (try (simp only [↓IntWalk.iteOmega]; go_simp)); (try simp (disch := omega) only [IntWalk.i64_in]); try with_reducible rfl)); simp only [Act.put, List.setIfInBounds_toArray, List.set_cons_zero, List.set_cons_succ]) | (refine qs_mid (v := ?_) (by rfl) ?_ ?_; rotate_left 1; (· (intro j w' hj1 hj2 hS; go_simp; (try (simp only [↓IntWalk.iteOmega]; go_simp)); (try simp (disch := omega) only [IntWalk.i64_in]); try with_reducible rfl)); simp only [Act.put, List.setIfInBounds_toArray, List.set_cons_zero, List.set_cons_succ]) | (refine qs_skip (by rfl) ?_; simp only [Act.put, List.setIfInBounds_toArray, List.set_cons_zero, List.set_cons_succ])))
  refine qs_act ?_
  go_wp2_with fail
  refine ⟨trivial, ?_⟩
  (repeat (first | (refine qs_now (v := ?_) (by rfl) ?_ ?_; rotate_left 1; (· (intro w' hS; go_simp; (try (simp only [↓IntWalk.iteOmega]; go_simp)); (try simp (disch := omega) only [IntWalk.i64_in]); try with_reducible rfl)); simp only [Act.put, List.setIfInBounds_toArray, List.set_cons_zero, List.set_cons_succ]) | (refine qs_run (v := ?_) (by rfl) ?_ ?_; rotate_left 1; (· (intro j w' hS; go_simp; (try (simp only [↓IntWalk.iteOmega]; go_simp)); (try simp (disch := omega) only [IntWalk.i64_in]); try with_reducible rfl)); simp only [Act.put, List.setIfInBounds_toArray, List.set_cons_zero, List.set_cons_succ]) | (refine qs_mid (v := ?_) (by rfl) ?_ ?_; rotate_left 1; (· (intro j w' hj1 hj2 hS; go_simp; (try (simp only [↓IntWalk.iteOmega]; go_simp)); (try simp (disch := omega) only [IntWalk.i64_in]); try with_reducible rfl)); simp only [Act.put, List.setIfInBounds_toArray, List.set_cons_zero, List.set_cons_succ]) | (refine qs_skip (by rfl) ?_; simp only [Act.put, List.setIfInBounds_toArray, List.set_cons_zero, List.set_cons_succ])))
  refine qs_nil ?_
  go_wp2_with (refine wpl_over rfl 25 (.tmp 2) (.tmp 38) (by rfl) w.heap.size (hdC zHd) (by rfl) (by rfl) _ cs1 K5.out (hdC_info zHd) (by rw [C1.out]; rfl) (hdC_one _) ?_; intro w6 hb hg hz; have B6 := Lib.hid hb; have G6 := Lib.hid hg; clear hb hg hz)
  have L6 := Lib.hid (show Below w.heap.size w w6 from L5.out.drew.grown G6.out L5.out.size (fun k hk => by injection hk with hk; omega))
  (try simp only [Exit.inBlock, Exit.then])
  refine bodyPost_ret (results_blk_tmp rfl _ w.heap.size rfl _ _ B6.out _ Tryz.underlying25 rfl 9 (hdC_info zHd) rfl) rfl ?_
  exact ⟨rfl, L6.out⟩
end
end Go.Proofs.YtpadifphnbdbpaaGreat
namespace Go.Proofs.YtpadifphnbdbpaaGreat
open Go.RowKit Go.Maps
set_option linter.unusedVariables false
set_option linter.unusedSimpArgs false
def hdRow (h : Hd) : List Int := frL 1 h.num.toNat 0 (hdB h 8)
theorem hdRow_len (h : Hd) : (hdRow h).length = 512 := frL_len _ _ _ _ (by rw [hdB_len]; omega)
theorem hdRow_bytes (h : Hd) : ∀ z ∈ hdRow h, 0 ≤ z ∧ z < 256 := frL_bytes (by omega) (hdB_bytes h 8)
theorem nbO_inj {i j : Nat} (hi : i < 8) (hj : j < 8) (h : nbO i = nbO j) : i = j := by
  unfold nbO at h
  split at h <;> split at h <;> omega
theorem nbO_lt {i : Nat} (hi : i < 8) : nbO i < 9 ∧ nbO i ≠ 5 := by
  unfold nbO
  split <;> omega
/-- While a head is read: the numbers ahead of i are there, of the i-th one p. -/
structure HgC (h : Hd) (i p : Nat) (cs : Array Value) : Prop where
  size : cs.size = 9
  num : cs[5]? = some (.int .i64 h.num)
  nb : ∀ k, k < 8 → cs[nbO k]? = some (.int .i64 ((if k < i then nbZ h k else if k = i then p else 0 : Nat) : Int))
theorem HgC.next {h : Hd} {i p : Nat} {cs : Array Value} (H : HgC h i p cs) (hp : p = nbZ h i) : HgC h (i + 1) 0 cs := by
  refine ⟨H.size, H.num, fun k hk => ?_⟩
  rw [H.nb k hk]
  congr 3
  by_cases h1 : k < i
  · rw [if_pos h1, if_pos (by omega)]
  · by_cases h2 : k = i
    · rw [if_neg h1, if_pos h2, if_pos (by omega), hp, h2]
    · rw [if_neg h1, if_neg h2, if_neg (by omega)]
      split <;> rfl
theorem HgC.put {h : Hd} {i p : Nat} {cs : Array Value} (H : HgC h i p cs) (hi : i < 8) (q : Nat) : HgC h i q (cs.setIfInBounds (nbO i) (.int .i64 (q : Int))) := by
  refine ⟨by rw [Array.size_setIfInBounds]; exact H.size, ?_, fun k hk => ?_⟩
  · rw [Array.getElem?_setIfInBounds_ne (nbO_lt hi).2]
    exact H.num
  · by_cases e : k = i
    · subst e
      rw [Array.getElem?_setIfInBounds_self_of_lt (by rw [H.size]; exact (nbO_lt hi).1), if_neg (by omega), if_pos rfl]
    · rw [Array.getElem?_setIfInBounds_ne (fun e2 => e (nbO_inj hi hk e2).symm), H.nb k hk, if_neg e, if_neg e]
theorem HgC.done {h : Hd} {p : Nat} {cs : Array Value} (H : HgC h 8 p cs) (hh : HdOk h) : cs = (hdC h).toArray := by
  apply Array.ext_getElem?
  intro j
  rcases Nat.lt_or_ge j 9 with hj | hj
  · by_cases h5 : j = 5
    · subst h5
      rw [H.num]
      rfl
    · obtain ⟨k, hk, rfl⟩ : ∃ k, k < 8 ∧ nbO k = j := by
        by_cases h4 : j < 5
        · exact ⟨j, by omega, by unfold nbO; rw [if_pos h4]⟩
        · exact ⟨j - 1, by omega, by unfold nbO; rw [if_neg (by omega)]; omega⟩
      rw [H.nb k hk, if_pos hk, List.getElem?_toArray, (hh.nb hk).1]
  · rw [Array.getElem?_eq_none (by rw [H.size]; exact hj), List.getElem?_toArray, List.getElem?_eq_none (by rw [hdC_len]; exact hj)]
theorem or_said64 (x z : Nat) (hx : x < 16777216) (hz : z < 256) : bits .or .i64 ((x : Int) * 256) (z : Int) = ((256 * x + z : Nat) : Int) := by
  have e : bits .or .i64 ((x : Int) * 256) (z : Int) = IntKind.i64.wrap (((BitVec.ofInt 64 ((x : Int) * 256)) ||| (BitVec.ofInt 64 (z : Int))).toNat : Int) := rfl
  rw [e, show ((x : Int) * 256) = ((256 * x : Nat) : Int) by omega, BitVec.ofInt_natCast, BitVec.ofInt_natCast, BitVec.toNat_or, BitVec.toNat_ofNat, BitVec.toNat_ofNat, Nat.mod_eq_of_lt (by omega), Nat.mod_eq_of_lt (by omega)]
  have := Nat.two_pow_add_eq_or_of_lt (i := 8) (b := z) hz x
  rw [show (256 : Nat) = 2 ^ 8 from rfl, ← this, IntWalk.i64_in _ (by omega)]
/-- The byte j of the number i. -/
theorem hdB_at (h : Hd) (i j : Nat) (hi : i < 8) (hj : j < 4) : (hdB h 8)[4 * i + j]? = (beL (nbZ h i) 4)[j]? := by
  have key : ∀ k, i < k → (hdB h k)[4 * i + j]? = (beL (nbZ h i) 4)[j]? := by
    intro k
    induction k with
    | zero => intro h0; omega
    | succ k ih =>
      intro hk
      rw [hdB_succ]
      by_cases e : i = k
      · subst e
        rw [List.getElem?_append_right (by rw [hdB_len]; omega), hdB_len]
        congr 1
        omega
      · rw [List.getElem?_append_left (by rw [hdB_len]; omega)]
        exact ih (by omega)
  exact key 8 hi
section
variable {w : World}
/-- frame.Get of a head's row. -/
theorem fr_get_hd {h : Hd} (hh : HdOk h) (b off cap : Nat) (W : World) (hr : RdI .u8 W (some ⟨b, off, none⟩) 512 (hdRow h)) (hc : 512 ≤ cap) :
    Calls Tryz.prog 127 #[.slice (some ⟨b, off, none⟩) 512 cap] W fun e W' => ∃ A c, e = .returned (.tuple #[.agg (fmC 1 h.num.toNat 0 A 32 c).toArray, .int .i64 1, .int .i64 0]) ∧ Src W' 1 (.slice A 32 c) 32 (bV (hdB h 8)) ∧ 32 ≤ c ∧ Below W.heap.size W W' ∧ ∀ a, A = some a → W.heap.size ≤ a.block := by
  have hl : (hdB h 8).length = 32 := hdB_len h 8
  have hd : subL (hdRow h) 28 32 = hdB h 8 := by have := frL_ds 1 h.num.toNat 0 (hdB h 8); rw [hl] at this; exact this
  have hn := hh.2.1
  refine (fr_get (hdRow h) b off cap W hr (hdRow_bytes h) hc 1 h.num.toNat 0 32 (frL_kind _ _ _ _) ?_ ?_ ?_ (by omega) (by omega) (by omega)).mono ?_
  · unfold hdRow
    rw [frL_ep, said_beL _ _ (by omega)]
  · unfold hdRow
    rw [frL_sq, said_beL _ _ (by omega)]
  · unfold hdRow
    rw [frL_n, hl, said_beL _ _ (by omega)]
  · rintro e W' ⟨hb, ⟨_, A, c, he, hs, hc2, hge⟩ | ⟨hne, _⟩⟩
    · rw [hd] at hs
      exact ⟨A, c, he, hs, hc2, hb, hge⟩
    · rw [hd] at hne
      exact absurd rfl hne
end
end Go.Proofs.YtpadifphnbdbpaaGreat
namespace Go.Proofs.YtpadifphnbdbpaaGreat
open Go.RowKit Go.Maps
set_option linter.unusedVariables false
set_option linter.unusedSimpArgs false
/-- While a head is read: blocks rb (the result), g (the head), f (the frame). -/
structure HgI (w : World) (h : Hd) (nn : Nat) (g f : Nat) (A : Option Addr) (c i p : Nat) (cs1 : Array Value) (W : World) : Prop where
  res : Blk W w.heap.size 25 cs1
  head : ∃ cs, Blk W g 25 cs ∧ HgC h i p cs
  frm : Blk W f 155 (fmC 1 nn 0 A 32 c).toArray
  src : Src W 1 (.slice A 32 c) 32 (bV (hdB h 8))
  sep : ∀ a, A = some a → a.block ≠ g
  ne : g ≠ f ∧ w.heap.size < g
  low : Below w.heap.size w W
theorem HgC.start (h : Hd) (nn : Nat) (hn : (nn : Int) = h.num) : HgC h 0 0 ((hdC zHd).toArray.setIfInBounds 5 (.int .i64 (nn : Int))) := by
  refine ⟨rfl, by rw [hn]; rfl, fun k hk => ?_⟩
  match k, hk with
  | 0, _ | 1, _ | 2, _ | 3, _ | 4, _ | 5, _ | 6, _ | 7, _ => rfl
theorem HgI.below {w : World} {h : Hd} {nn g f : Nat} {A : Option Addr} {c i p : Nat} {cs1 : Array Value} {W W' : World} (H : HgI w h nn g f A c i p cs1 W) (hb : Below W.heap.size W W') : HgI w h nn g f A c i p cs1 W' := by
  obtain ⟨cs, hh, hc⟩ := H.head
  exact ⟨H.res.below hb H.res.lt, ⟨cs, hh.below hb hh.lt, hc⟩, H.frm.below hb H.frm.lt, H.src.below hb, H.sep, H.ne, below_chain H.low hb⟩
theorem HgI.next {w : World} {h : Hd} {nn g f : Nat} {A : Option Addr} {c i p : Nat} {cs1 : Array Value} {W : World} (H : HgI w h nn g f A c i p cs1 W) (hp : p = nbZ h i) : HgI w h nn g f A c (i + 1) 0 cs1 W := by
  obtain ⟨cs, hh, hc⟩ := H.head
  exact ⟨H.res, ⟨cs, hh, hc.next hp⟩, H.frm, H.src, H.sep, H.ne, H.low⟩
theorem HgI.put {w : World} {h : Hd} {nn g f : Nat} {A : Option Addr} {c i p : Nat} {cs1 : Array Value} {W : World} (H : HgI w h nn g f A c i p cs1 W) (hi : i < 8) (q : Nat) : HgI w h nn g f A c i q cs1 (W.setCell ⟨g, nbO i, none⟩ (.int .i64 (q : Int))) := by
  obtain ⟨cs, hh, hc⟩ := H.head
  have T : Tch [g] W (W.setCell ⟨g, nbO i, none⟩ (.int .i64 (q : Int))) := tch_g (grown_put W _ _)
  have ne := H.ne
  exact ⟨H.res.tch T (by simp; omega), ⟨_, hh.put _ _, hc.put hi q⟩, H.frm.tch T (by simp; omega), src_tch H.src T (fun _ a ha => by have := H.sep a ha; simp; exact this), H.sep, H.ne, H.low.trans (T.toBelow H.low.size (fun k hk => by simp at hk; omega))⟩
section
variable {w : World}
def HgL1 (w : World) (h : Hd) (nn g f : Nat) (A : Option Addr) (c : Nat) (cs1 : Array Value) (gk : Nat) (iv : Value) (W : World) : Prop := ∃ i, iv = .int .i64 ((i : Nat) : Int) ∧ i + gk ≤ 8 ∧ 8 ≤ i + gk ∧ HgI w h nn g f A c i 0 cs1 W
def HgL2 (w : World) (h : Hd) (nn g f : Nat) (A : Option Addr) (c i : Nat) (cs1 : Array Value) (gk : Nat) (jv : Value) (W : World) : Prop := ∃ j, jv = .int .i64 ((j : Nat) : Int) ∧ j + gk ≤ 4 ∧ 4 ≤ j + gk ∧ HgI w h nn g f A c i (saidL ((beL (nbZ h i) 4).take j)) cs1 W
set_option maxRecDepth 100000 in
set_option maxHeartbeats 4000000 in
theorem hd_get {h : Hd} (hh : HdOk h) (b off cap : Nat) (w : World) (hr : RdI .u8 w (some ⟨b, off, none⟩) 512 (hdRow h)) (hc : 512 ≤ cap) :
    Calls Tryz.prog 90 #[.slice (some ⟨b, off, none⟩) 512 cap] w fun e w' => e = .returned (.tuple #[.agg (hdC h).toArray, .int .i64 0]) ∧ Below w.heap.size w w' := by
  have HH := Lib.hid hh
  have HR := Lib.hid hr
  have G := Lib.hid (fun W (hb : Below w.heap.size w W) => fr_get_hd hh b off cap W (hr.below hb) hc)
  obtain ⟨nn, hnn⟩ : ∃ nn, nn = h.num.toNat := ⟨_, rfl⟩
  rw [← hnn] at G
  have HNn := Lib.hid (show (nn : Int) = h.num by have := hh.2.1; omega)
  clear hr hh hnn
  go_enter Tryz.func90, Tryz.ntmps90
  go_upto_region 3 with (first
    | (go_at_call 127; refine (G.out _ L2.out).mono ?_; rintro e w3 ⟨A, c, rfl, hs, hc2, hb, hge⟩; have GE := Lib.hid (show ∀ a, A = some a → a.block ≠ w1.heap.size from fun a ha => by have := hge a ha; have := H2.out.lt; omega); have S3 := Lib.hid hs; have HC := Lib.hid hc2; have L3 := Lib.hid (below_chain L2.out hb); have K3 := Lib.hid (K2.out.below hb K2.out.lt); have H3 := Lib.hid (H2.out.below hb H2.out.lt); clear hb hs hc2 hge)
    | (refine wpl_alloc_zero rfl 25 (by rfl) Tryz.zeroValue25 ?_; intro w2 hk hg hz; have H2 := Lib.hid hk; have K2 := Lib.hid (K.out.grown hg (by simp)); have L2 := Lib.hid (bl_n L.out hg); clear hk hg hz; simp only [Act.put, List.setIfInBounds_toArray, List.set_cons_zero, List.set_cons_succ])
    | (refine wpl_alloc rfl 25 (by rfl) Tryz.zeroValue25 9 (by rfl) ?_; intro w1 cs1 hk hc hg hz; have K := Lib.hid hk; have C1 := Lib.hid hc; have L := Lib.hid (bl_n (Below.refl _ _) hg); clear hk hc hg hz; simp only [Act.put, List.setIfInBounds_toArray, List.set_cons_zero, List.set_cons_succ])
    | (refine wpl_over rfl 155 (.tmp 5) (.tmp 17) (by rfl) w3.heap.size (fmC 1 nn 0 A 32 c) (by rfl) (by rfl) _ cs4 F4.out (fmC_info _ _ _ _ _ _) (by rw [C4.out]; rfl) (by simp [fmC, Value.oneCell']) ?_; intro w5 hb hg hz; have F5 := Lib.hid hb; have G5 := Lib.hid hg; clear hb hg hz)
    | (refine wpl_alloc rfl 155 (by rfl) Tryz.zeroValue155 4 (by rfl) ?_; intro w4 cs4 hk hc hg hz; have F4 := Lib.hid hk; have C4 := Lib.hid hc; have G4 := Lib.hid hg; clear hk hc hg hz; simp only [Act.put, List.setIfInBounds_toArray, List.set_cons_zero, List.set_cons_succ]))
  have B35 := Lib.hid (show Below w3.heap.size w3 w5 from (bl_n (Below.refl _ w3) G4.out).grown G5.out (bl_n (Below.refl _ w3) G4.out).size (fun k hk => by injection hk with hk; omega))
  have L5 := Lib.hid (below_chain L3.out B35.out)
  have H5 := Lib.hid (show Blk w5 w1.heap.size 25 (hdC zHd).toArray from H3.out.below B35.out H3.out.lt)
  have K5 := Lib.hid (K3.out.below B35.out K3.out.lt)
  have S5 := Lib.hid (S3.out.below B35.out)
  have NE := Lib.hid (show w1.heap.size ≠ w3.heap.size ∧ w.heap.size < w1.heap.size from ⟨by have := H3.out.lt; omega, by have := K.out.lt; omega⟩)
  have c3 : w5.cell? ⟨w3.heap.size, 3, none⟩ = some (.slice A 32 c) := F5.out.cell rfl
  generalize w1.heap.size = g at *
  generalize w3.heap.size = f at *
  clear G5 G4 F4 C4 B35 H3 K3 S3 L3 H2 K2 K L
  refine wp_region_qs (fun _ w' => w'.cell? ⟨f, 3, none⟩ = some (.slice A 32 c)) [(0, some 1), (1, some 1), (2, some 1), (3, some 1), (4, some 1), (5, some 1), (6, some 1), (7, some 1), (8, some 1), (9, some 0), (10, some 1), (11, some 1), (12, some 1), (13, none), (14, some 1), (15, some 1), (16, some 1), (17, some 1)] (by kernel_rfl) (by kernel_rfl) (by kernel_rfl) (by kernel_rfl) (by kernel_rfl) (fun _ _ _ _ _ h => h) c3 ?_
  simp only [List.map_cons, List.map_nil, List.getD_cons_succ, List.getD_cons_zero]
  (repeat (first | (refine qs_now (v := ?_) (by rfl) ?_ ?_; rotate_left 1; (· (intro w' hS; go_simp; (try (simp only [↓IntWalk.iteOmega]; go_simp)); (try simp (disch := omega) only [IntWalk.i64_in]); try with_reducible rfl)); simp only [Act.put, List.setIfInBounds_toArray, List.set_cons_zero, List.set_cons_succ]) | (refine qs_run (v := ?_) (by rfl) ?_ ?_; rotate_left 1; (· (intro j w' hS; go_simp; (try (simp only [↓IntWalk.iteOmega]; go_simp)); (try simp (disch := omega) only [IntWalk.i64_in]); try with_reducible rfl)); simp only [Act.put, List.setIfInBounds_toArray, List.set_cons_zero, List.set_cons_succ]) | (refine qs_mid (v := ?_) (by rfl) ?_ ?_; rotate_left 1; (· (intro j w' hj1 hj2 hS; go_simp; (try (simp only [↓IntWalk.iteOmega]; go_simp)); (try simp (disch := omega) only [IntWalk.i64_in]); try with_reducible rfl)); simp only [Act.put, List.setIfInBounds_toArray, List.set_cons_zero, List.set_cons_succ]) | (refine qs_skip (by rfl) ?_; simp only [Act.put, List.setIfInBounds_toArray, List.set_cons_zero, List.set_cons_succ])))
  refine qs_act ?_
  go_wp2_with (go_at_call 72; refine (hd_numbers g _).mono ?_; rintro e w6 ⟨rfl, hb⟩; have L6 := Lib.hid (below_chain L5.out.drew hb); have F6 := Lib.hid (F5.out.drew.below hb F5.out.lt); have H6 := Lib.hid (H5.out.drew.below hb H5.out.lt); have K6 := Lib.hid (K5.out.drew.below hb K5.out.lt); have S6 := Lib.hid (show Src w6 1 (.slice A 32 c) 32 (bV (hdB h 8)) from Src.below (w := w5.drew) S5.out hb); clear hb)
  clear L5 F5 H5 K5 S5 c3
  refine ⟨F6.out.cell rfl, ?_⟩
  (repeat (first | (refine qs_now (v := ?_) (by rfl) ?_ ?_; rotate_left 1; (· (intro w' hS; go_simp; (try (simp only [↓IntWalk.iteOmega]; go_simp)); (try simp (disch := omega) only [IntWalk.i64_in]); try with_reducible rfl)); simp only [Act.put, List.setIfInBounds_toArray, List.set_cons_zero, List.set_cons_succ]) | (refine qs_run (v := ?_) (by rfl) ?_ ?_; rotate_left 1; (· (intro j w' hS; go_simp; (try (simp only [↓IntWalk.iteOmega]; go_simp)); (try simp (disch := omega) only [IntWalk.i64_in]); try with_reducible rfl)); simp only [Act.put, List.setIfInBounds_toArray, List.set_cons_zero, List.set_cons_succ]) | (refine qs_mid (v := ?_) (by rfl) ?_ ?_; rotate_left 1; (· (intro j w' hj1 hj2 hS; go_simp; (try (simp only [↓IntWalk.iteOmega]; go_simp)); (try simp (disch := omega) only [IntWalk.i64_in]); try with_reducible rfl)); simp only [Act.put, List.setIfInBounds_toArray, List.set_cons_zero, List.set_cons_succ]) | (refine qs_skip (by rfl) ?_; simp only [Act.put, List.setIfInBounds_toArray, List.set_cons_zero, List.set_cons_succ])))
  refine qs_nil ?_
  have c1 : w6.cell? ⟨f, 1, none⟩ = some (.int .i64 (nn : Int)) := F6.out.cell rfl
  have fr5 := H6.out.free 5
  have c5 : w6.cell? ⟨g, 5, none⟩ = some (.int .i64 0) := H6.out.cell rfl
  obtain ⟨w7, h7⟩ : ∃ W, W = w6.setCell ⟨g, 5, none⟩ (.int .i64 (nn : Int)) := ⟨_, rfl⟩
  have T7 := Lib.hid (show Tch [g] w6 w7 by rw [h7]; exact tch_g (grown_put w6 _ _))
  have I7 := Lib.hid (show HgI w h nn g f A c 0 0 cs1 w7 from
    ⟨K6.out.tch T7.out (by have := NE.out; simp; omega), ⟨_, by rw [h7]; exact H6.out.put 5 _, HgC.start h nn HNn.out⟩, F6.out.tch T7.out (by have := NE.out; simp; omega),
     src_tch S6.out T7.out (fun _ a ha => by have := GE.out a ha; simp; exact this), GE.out, NE.out, L6.out.trans (T7.out.toBelow L6.out.size (fun k hk => by simp at hk; have := NE.out; omega))⟩)
  subst h7
  clear T7 K6 H6 F6 S6 L6
  go_upto_region 7 with (go_at_call 72; refine (hd_numbers g _).mono ?_; rintro e w8 ⟨rfl, hb⟩; have I8 := Lib.hid (I7.out.below hb); clear hb)
  clear I7 c1 fr5 c5
  go_loopg [43] 8 (fun gk iv W => HgL1 w h nn g f A c cs1 gk iv W)
  case atStart => exact ⟨0, rfl, by omega, by omega, I8.out⟩
  case round =>
    obtain ⟨i, rfl, hi1, hi2, hI⟩ := hrel
    have I := Lib.hid hI
    have HI := Lib.hid (And.intro hi1 hi2)
    clear hI I8 hi1 hi2
    generalize gk = K0 at *
    by_cases hlt : i < 8
    · have ix := idx8 g i hlt
      have hltI : (i : Int) < 8 := by omega
      have c3 : wr.cell? ⟨f, 3, none⟩ = some (.slice A 32 c) := I.out.frm.cell rfl
      have hcI : 4 * (i : Int) + 4 ≤ (c : Int) := by have := HC.out; omega
      have HLt := Lib.hid hlt
      obtain ⟨ab, ao, hA⟩ : ∃ ab ao, A = some ⟨ab, ao, none⟩ := by
        obtain ⟨A', c', e, _, hx⟩ := I.out.src
        obtain ⟨b2, o2, e2, _⟩ := hx (by omega)
        injection e with e
        exact ⟨b2, o2, by rw [e, e2]⟩
      subst hA
      go_upto_region 10 with fail
      go_loopg [56] 4 (fun gk iv W => HgL2 w h nn g f (some ⟨ab, ao, none⟩) c i cs1 gk iv W)
      case atStart => exact ⟨0, rfl, by omega, by omega, I.out⟩
      case round =>
        obtain ⟨j, rfl, hj1, hj2, hI2⟩ := hrel
        have J := Lib.hid hI2
        have HJ := Lib.hid (And.intro hj1 hj2)
        clear hI2 I hj1 hj2 c3
        obtain ⟨cs, hB, hC⟩ := J.out.head
        have B := Lib.hid hB
        have C := Lib.hid hC
        clear hB hC
        obtain ⟨p, hp⟩ : ∃ p, p = saidL ((beL (nbZ h i) 4).take j) := ⟨_, rfl⟩
        rw [← hp] at C
        have HP := Lib.hid hp
        have cN : wr.cell? ⟨g, nbO i, none⟩ = some (.int .i64 (p : Int)) := B.out.cell (by have := C.out.nb i HLt.out; rw [if_neg (by omega), if_pos rfl] at this; exact this)
        have frN := B.out.free (nbO i)
        by_cases hjlt : j < 4
        · obtain ⟨z, hz1, hz2⟩ : ∃ z : Nat, (beL (nbZ h i) 4)[j]? = some (z : Int) ∧ z < 256 := by
            have hl := beL_len (nbZ h i) 4
            obtain ⟨y, hy⟩ : ∃ y, (beL (nbZ h i) 4)[j]? = some y := ⟨_, List.getElem?_eq_getElem (by rw [hl]; exact hjlt)⟩
            have hb := beL_bytes _ _ y (List.mem_of_getElem? hy)
            exact ⟨y.toNat, by rw [hy]; congr 1; omega, by omega⟩
          have cZ : wr.cell? ⟨ab, ao + 4 * i + j, none⟩ = some (.int .u8 (z : Int)) := by
            obtain ⟨A', c', e, _, hx⟩ := J.out.src
            obtain ⟨b2, o2, e2, _, hcell⟩ := hx (by omega)
            injection e with e
            rw [e2] at e
            injection e with e
            injection e with e3 e4
            subst e3 e4
            have := hcell (4 * i + j) (.int .u8 (z : Int)) (by unfold bV; rw [List.getElem?_map, hdB_at h i j HLt.out hjlt, hz1]; rfl)
            rw [show ao + 4 * i + j = ao + (4 * i + j) by omega]
            exact this
          have hjI : (j : Int) < 4 := by omega
          have hplt : p < 16777216 := by
            have := saidL_lt ((beL (nbZ h i) 4).take j) (fun z hz => beL_bytes _ _ z (List.mem_of_mem_take hz))
            rw [← hp] at this
            have h2 : 256 ^ ((beL (nbZ h i) 4).take j).length ≤ 256 ^ 3 := Nat.pow_le_pow_right (by omega) (by rw [List.length_take, beL_len]; omega)
            omega
          have eO := or_said64 p z hplt hz2
          have HPn := Lib.hid (show saidL ((beL (nbZ h i) 4).take (j + 1)) = 256 * p + z by rw [List.take_add_one, hz1, Option.toList_some, saidL_snoc, ← hp]; rfl)
          have HJl := Lib.hid hjlt
          clear hz1 hp hjlt
          go_wp2_with fail
          go_roundg (gk - 1)
          case measure => have := HJ.out; have := HJl.out; omega
          case rel =>
            refine ⟨j + 1, by go_num, by have := HJ.out; have := HJl.out; omega, by have := HJ.out; have := HJl.out; omega, ?_⟩
            rw [HPn.out]
            exact (show (256 * (p : Int) + (z : Int)) = ((256 * p + z : Nat) : Int) by omega) ▸ J.out.put HLt.out (256 * p + z)
        · obtain rfl : j = 4 := by have := HJ.out; omega
          have hjI : ¬ ((4 : Nat) : Int) < 4 := by omega
          have HPe := Lib.hid (show p = nbZ h i by rw [hp, List.take_of_length_le (by rw [beL_len]; exact Nat.le_refl _), said_beL _ _ (by have := (HH.out.nb HLt.out).2; omega)])
          go_wp2_with fail
          go_roundg (K0 - 1)
          case measure => have := HI.out; have := HLt.out; omega
          case rel => exact ⟨i + 1, by go_num, by have := HI.out; have := HLt.out; omega, by have := HI.out; have := HLt.out; omega, (HP.out ▸ J.out).next HPe.out⟩
    · obtain rfl : i = 8 := by have := HI.out; omega
      have hnI : ¬ ((8 : Nat) : Int) < 8 := by omega
      obtain ⟨cs, hB, hC⟩ := I.out.head
      obtain rfl := hC.done HH.out
      have RG := Lib.hid (show wr.rangeAt g 0 (hdC h) by have := hB.range; rwa [List.toList_toArray] at this)
      have B := Lib.hid hB
      clear hB hC
      go_wp2_with (first
        | (go_at_call 91; refine (equal_any (hdRow h) (hdRow h) (some ⟨r, 0, none⟩) (some ⟨b, off, none⟩) 512 512 512 cap _ (rd_full R10.out (hdRow_len h)) (HR.out.below L10.out) (by omega) (by omega) (hdRow_bytes h) (hdRow_bytes h)).mono ?_; rewrite [decide_eq_true rfl]; rintro e w11 ⟨rfl, rfl⟩)
        | (go_at_call 31; refine (hd_put HH.out).mono ?_; rintro e w10 ⟨r, rfl, hb, hge, hl⟩; have R10 := Lib.hid (show Blk w10 r 5 (bV (hdRow h)).toArray from hb); have L10 := Lib.hid (below_chain I.out.low hl); have B10 := Lib.hid (B.out.below hl B.out.lt); have K10 := Lib.hid (I.out.res.below hl I.out.res.lt); have RG10 := Lib.hid (show w10.rangeAt g 0 (hdC h) by have := B10.out.range; rwa [List.toList_toArray] at this); clear hb hl hge)
        | (refine wpl_over rfl 25 (.tmp 2) (.tmp 85) (by rfl) w.heap.size (hdC h) (by rfl) (by rfl) _ cs1 K10.out (hdC_info h) (by rw [C1.out]; rfl) (hdC_one h) ?_; intro w12 hb hg hz; have B12 := Lib.hid hb; have G12 := Lib.hid hg; clear hb hg hz)
        | (refine wpList_load_mid rfl 25 (.tmp 4) (by rfl) g 0 (by rfl) (hdC h) _ RG.out Tryz.underlying25 rfl (hdC_info _) ?_; simp only [Act.put, List.setIfInBounds_toArray, List.set_cons_zero, List.set_cons_succ])
        | (refine wpList_load_mid rfl 25 (.tmp 4) (by rfl) g 0 (by rfl) (hdC h) _ RG10.out Tryz.underlying25 rfl (hdC_info _) ?_; simp only [Act.put, List.setIfInBounds_toArray, List.set_cons_zero, List.set_cons_succ]))
      (try simp only [Exit.inBlock, Exit.then])
      refine bodyPost_ret (results_blk_tmp rfl _ w.heap.size rfl _ _ B12.out _ Tryz.underlying25 rfl 9 (hdC_info h) rfl) rfl ?_
      exact ⟨rfl, L10.out.grown G12.out L10.out.size (fun k hk => by injection hk with hk; omega)⟩
end
end Go.Proofs.YtpadifphnbdbpaaGreat
