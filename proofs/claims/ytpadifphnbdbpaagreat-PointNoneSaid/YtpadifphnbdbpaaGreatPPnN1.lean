/-
  what this claim needs of: PnN1, PnN2, PnN3 (written by cut.py).
-/
import Derived.Test.YtpadifphnbdbpaaGreatPPnH6
namespace Go.Proofs.YtpadifphnbdbpaaGreat
open Go.RowKit Go.Maps
set_option linter.unusedVariables false
set_option linter.unusedSimpArgs false
abbrev ndE : Array Value := #[.bool true, .slice none 0 0, .slice none 0 0, .slice none 0 0]
def ndZ : List Int := [1, 0] ++ List.replicate 1018 0
def ndRow : List Int := ndZ ++ beL (crcB ndZ).toNat 4
theorem ndZ_len : ndZ.length = 1020 := by unfold ndZ; rw [List.length_append, List.length_replicate]; rfl
theorem ndRow_len : ndRow.length = 1024 := by unfold ndRow; rw [List.length_append, ndZ_len, beL_len]
section
variable {P : Program} {w : World} {ops : Array Oper} {rest : List Oper} {o : Oper} {a : Act} {Q : Exit → Act → World → Prop}
theorem wpl_set (hgd : o.guard = none) (ty : TypeId) (x y : Operand) (ho : o.op = .store ty x y) (g off : Nat) (v : Value) (hx : a.eval x = .pointer (some ⟨g, off, none⟩)) (hy : a.eval y = v)
    (t : TypeId) (cs : Array Value) (hb : Blk w g t cs) (hi : (P.info? ty).map (·.size) = some 1) (hm : off < cs.size) (hc : v.cells = #[v]) (h1 : v.oneCell' = true)
    (h : ∀ w1, Blk w1 g t (cs.setIfInBounds off v) → w.grownBy w1 (some g) → w1.heap.size = w.heap.size → wpList P ops Q rest (a.put o.dst undef) w1) : wpList P ops Q (o :: rest) a w := by
  refine wpList_plain hgd fun K' hK' => ?_
  have hS : (storeVar ty ⟨g, off, none⟩ v).run P w = .ok () (w.setCells g off [v]) := by
    have := run_storeVar_mid (P := P) w g off ty #[v] (hb.isThere off 1 (by omega)) (by rw [hi]; rfl) (by simp [h1])
    rw [← this]
    unfold storeVar
    rw [hc]
    rfl
  unfold Oper.wp execOp
  simp only [ho, hx, hy, Instr.storeAt, Instr.sureAddr, Sem.run_bind, Sem.run_pure, Result.andThen_ok, hS]
  refine hK' _ _ (h _ ?_ (grown_setCells _ w off).1 (grown_setCells _ w off).2)
  have := Blk.puts [v] w cs off hb
  simpa [putAt] using this
end
theorem rises_nil (w : World) : Calls Tryz.prog 128 #[.slice none 0 0, .func (.func 129) #[] #[]] w fun e w' => e = .returned (.bool true) ∧ w' = w := by
  go_enter Tryz.func128, Tryz.ntmps128
  go_wp2_with fail
  go_loopg [5] 0 (fun (k : Nat) kv wk => kv = .int .i64 1 ∧ wk = w)
  · exact ⟨rfl, rfl⟩
  · obtain ⟨rfl, rfl⟩ := hrel
    go_wp2_with fail
    go_ret
    exact ⟨rfl, rfl⟩
theorem nd_right (w : World) : Calls Tryz.prog 92 #[.agg ndE] w fun e w' => e = .returned (.bool true) ∧ Below w.heap.size w w' := by
  go_enter Tryz.func92, Tryz.ntmps92
  go_wp2_with (refine wpl_box rfl 108 (.tmp 0) rfl _ rfl ?_; intro w1 hk hg hz; have K := Lib.hid hk; have G := Lib.hid hg; have c0 := (show Blk w1 _ _ ndE from hk).cell (i := 0) rfl; have c1 := (show Blk w1 _ _ ndE from hk).cell (i := 1) rfl; have c2 := (show Blk w1 _ _ ndE from hk).cell (i := 2) rfl; have c3 := (show Blk w1 _ _ ndE from hk).cell (i := 3) rfl; clear hk hg hz)
  refine (rises_nil w1).mono ?_
  rintro e w2 ⟨rfl, rfl⟩
  go_wp2_with fail
  go_ret
  exact ⟨rfl, bl_n (Below.refl _ _) G.out⟩
end Go.Proofs.YtpadifphnbdbpaaGreat
namespace Go.Proofs.YtpadifphnbdbpaaGreat
open Go.RowKit Go.Maps
set_option linter.unusedVariables false
set_option linter.unusedSimpArgs false
theorem info_nd : (Tryz.prog.info? 108).map (·.size) = some 4 := by kernel_rfl
theorem info_u8 : (Tryz.prog.info? 5).map (·.size) = some 1 := by kernel_rfl
theorem four_any {w : World} {g : Nat} {cs : Array Value} (hB : Blk w g 5 cs) (hs : cs.size = 1024) (n : Nat) (hn : n < 4294967296) :
    Calls Tryz.prog 118 #[.slice (some ⟨g, 1020, none⟩) 4 4, .int .u32 (n : Int)] w fun e w' => e = .returned (.tuple #[]) ∧ Blk w' g 5 (putAt cs 1020 (bV (beL n 4))) ∧ w.grownBy w' (some g) := by
  have B := Lib.hid hB
  have HS := Lib.hid hs
  clear hB hs
  go_enter Tryz.func118, Tryz.ntmps118
  go_wp2_with (first
    | (refine wpl_set rfl 5 (.tmp 22) (.tmp 18) (by rfl) g 1023 _ (by rfl) (by rfl) _ _ B3.out info_u8 (by simp [HS.out]) (by rfl) (by rfl) ?_; intro w4 hb hg hz; have B4 := Lib.hid hb; have G4 := Lib.hid (G3.out.trans hg); clear hb hg hz; simp only [Act.put, List.setIfInBounds_toArray, List.set_cons_zero, List.set_cons_succ])
    | (refine wpl_set rfl 5 (.tmp 21) (.tmp 16) (by rfl) g 1022 _ (by rfl) (by rfl) _ _ B2.out info_u8 (by simp [HS.out]) (by rfl) (by rfl) ?_; intro w3 hb hg hz; have B3 := Lib.hid hb; have G3 := Lib.hid (G2.out.trans hg); clear hb hg hz; simp only [Act.put, List.setIfInBounds_toArray, List.set_cons_zero, List.set_cons_succ])
    | (refine wpl_set rfl 5 (.tmp 20) (.tmp 13) (by rfl) g 1021 _ (by rfl) (by rfl) _ _ B1.out info_u8 (by simp [HS.out]) (by rfl) (by rfl) ?_; intro w2 hb hg hz; have B2 := Lib.hid hb; have G2 := Lib.hid (G1.out.trans hg); clear hb hg hz; simp only [Act.put, List.setIfInBounds_toArray, List.set_cons_zero, List.set_cons_succ])
    | (refine wpl_set rfl 5 (.tmp 19) (.tmp 10) (by rfl) g 1020 _ (by rfl) (by rfl) _ _ B.out info_u8 (by simp [HS.out]) (by rfl) (by rfl) ?_; intro w1 hb hg hz; have B1 := Lib.hid hb; have G1 := Lib.hid hg; clear hb hg hz; simp only [Act.put, List.setIfInBounds_toArray, List.set_cons_zero, List.set_cons_succ]))
  go_end0
  refine ⟨rfl, ?_, G4.out⟩
  have hb := B4.out
  rw [beL4]
  have e1 : (n : Int) / 16777216 % 256 = (n : Int) / 16777216 := by omega
  rw [e1]
  exact hb
def ndRaw : List Int := [1, 0] ++ List.replicate 1022 0
theorem ndZ_bytes : ∀ z ∈ ndZ, 0 ≤ z ∧ z < 256 := by
  unfold ndZ
  intro z hz
  rcases List.mem_append.1 hz with h | h
  · simp at h; omega
  · have := List.eq_of_mem_replicate h; omega
theorem nd_all : ndRaw = ndZ ++ List.replicate 4 (0 : Int) := by
  unfold ndZ ndRaw
  rw [List.append_assoc, List.replicate_append_replicate]
theorem nd_rd {w : World} {g : Nat} (h : Blk w g 5 (bV (ndRaw)).toArray) : RdI .u8 w (some ⟨g, 0, none⟩) 1020 ndZ := by
  have h1 := rd_sub (rd_full (n := 1024) h (by rw [nd_all, List.length_append, ndZ_len, List.length_replicate])) (p := 0) (q := 1020) (by omega)
  rw [nd_all, List.drop_zero, List.take_append_of_le_length (by rw [ndZ_len]; omega), List.take_of_length_le (by rw [ndZ_len]; omega)] at h1
  exact h1
theorem nd_end : putAt (bV (ndRaw)).toArray 1020 (bV (beL (crcB ndZ).toNat 4)) = (bV ndRow).toArray := by
  rw [nd_all]
  unfold ndRow
  rw [putAt_list _ _ _ (by rw [bV_len, beL_len, List.size_toArray, bV_len, List.length_append, ndZ_len, List.length_replicate]; exact Nat.le_refl _)]
  refine congrArg List.toArray ?_
  rw [bV_len, beL_len, List.toList_toArray]
  have e : (bV (ndZ ++ List.replicate 4 0)) = bV ndZ ++ bV (List.replicate 4 0) := by simp [bV]
  have e2 : (bV (ndZ ++ beL (crcB ndZ).toNat 4)) = bV ndZ ++ bV (beL (crcB ndZ).toNat 4) := by simp [bV]
  have hl : (bV ndZ).length = 1020 := by rw [bV_len, ndZ_len]
  rw [e, e2, List.take_append_of_le_length (by omega), List.take_of_length_le (by omega), List.drop_eq_nil_of_le (by rw [List.length_append, hl, bV_len, List.length_replicate]; exact Nat.le_refl _), List.append_nil]
theorem crc_nd {w : World} {g z : Nat} (hz : z = (crcB ndZ).toNat) (h : Blk w g 5 (bV ndRaw).toArray) : Calls Tryz.prog 114 #[.slice (some ⟨g, 0, none⟩) 1020 1024] w fun e w' => e = .returned (.int .u32 (z : Int)) ∧ Below w.heap.size w w' := by
  have h := crcsum_any ndZ (some ⟨g, 0, none⟩) 1020 1024 _ (nd_rd h) ndZ_bytes (by omega)
  rw [show wv (crcB ndZ) = (z : Int) by rw [hz]; rfl] at h
  exact h
theorem nd_size : (bV ndRaw).toArray.size = 1024 := by rw [List.size_toArray, bV_len, nd_all, List.length_append, ndZ_len, List.length_replicate]
set_option maxRecDepth 100000 in
/-- The empty leaf's bytes. -/
theorem nd_put (w : World) : Calls Tryz.prog 78 #[.agg ndE] w fun e w' => ∃ g, e = .returned (.tuple #[.slice (some ⟨g, 0, none⟩) 1024 1024, .int .i64 0]) ∧ Blk w' g 5 (bV ndRow).toArray ∧ w.heap.size ≤ g ∧ Below w.heap.size w w' := by
  go_enter Tryz.func78, Tryz.ntmps78
  go_upto_region 4 with (first
    | (go_at_call 92; refine (nd_right _).mono ?_; rintro e w2 ⟨rfl, hb⟩; have L2 := Lib.hid (below_chain L1.out hb); have K2 := Lib.hid (K1.out.below hb K1.out.lt); have c0 := (show Blk w2 _ _ ndE from K2.out).cell (i := 0) rfl; have c1 := (show Blk w2 _ _ ndE from K2.out).cell (i := 1) rfl; have c2 := (show Blk w2 _ _ ndE from K2.out).cell (i := 2) rfl; have c3 := (show Blk w2 _ _ ndE from K2.out).cell (i := 3) rfl; clear hb)
    | (refine wpl_box rfl 108 (.tmp 0) rfl _ rfl ?_; intro w1 hk hg hz; have K1 := Lib.hid hk; have L1 := Lib.hid (bl_n (Below.refl _ _) hg); clear hk hg hz)
    | (refine wpl_load_blk rfl 108 (.tmp 1) (by rfl) w.heap.size (by rfl) 108 _ (show Blk w1 _ _ ndE from K1.out) _ Tryz.underlying108 rfl 4 info_nd rfl ?_; simp only [Act.put, List.setIfInBounds_toArray, List.set_cons_zero, List.set_cons_succ])
    | (refine mk_bytes rfl (.const (.int .i64 1024)) (.const (.int .i64 1024)) (by rfl) w2.heap.size 1024 1024 1024 (by rfl) (by rfl) (by rfl) (by rfl) (by omega) (Nat.le_refl _) ?_; intro w3 ho hg; have hB := own_full ho; obtain ⟨c3, hc3⟩ : ∃ c : Array Value, c = (List.replicate 1024 (Value.int .u8 0)).toArray := ⟨_, rfl⟩; rw [← hc3] at hB; have B3 := Lib.hid hB; have C3 := Lib.hid hc3; clear hB hc3; have L3 := Lib.hid (bl_n L2.out hg); have L3k := Lib.hid (bl_n (Below.refl _ w2) hg); clear ho hg))
  have NG := Lib.hid (show w.heap.size < w2.heap.size by have := K2.out.lt; omega)
  have GL := Lib.hid (show w2.heap.size < w3.heap.size from B3.out.lt)
  have K3 := Lib.hid (show Blk w3 w.heap.size 108 ndE from by have h1 := K2.out; exact (L3k.out.block _ h1.lt).trans h1)
  clear c0 c1 c2 K1 K2 L1 L2
  generalize w2.heap.size = g at *
  refine wp_region_qs (fun _ w' => w'.cell? ⟨w.heap.size, 3, none⟩ = some (.slice none 0 0)) [(0, some 0), (1, some 1), (2, some 1), (3, some 1), (4, some 1), (5, some 1), (6, some 0), (7, none), (8, some 1), (9, none)] (by kernel_rfl) (by kernel_rfl) (by kernel_rfl) (by kernel_rfl) (by kernel_rfl) (fun _ _ _ _ _ h => h) (K3.out.cell rfl) ?_
  simp only [List.map_cons, List.map_nil, List.getD_cons_succ, List.getD_cons_zero]
  (repeat (first | (refine qs_now (v := ?_) (by rfl) ?_ ?_; rotate_left 1; (· (intro w' hS; go_simp; (try (simp only [↓IntWalk.iteOmega]; go_simp)); (try simp (disch := omega) only [IntWalk.i64_in]); try with_reducible rfl)); simp only [Act.put, List.setIfInBounds_toArray, List.set_cons_zero, List.set_cons_succ]) | (refine qs_run (v := ?_) (by rfl) ?_ ?_; rotate_left 1; (· (intro j w' hS; go_simp; (try (simp only [↓IntWalk.iteOmega]; go_simp)); (try simp (disch := omega) only [IntWalk.i64_in]); try with_reducible rfl)); simp only [Act.put, List.setIfInBounds_toArray, List.set_cons_zero, List.set_cons_succ]) | (refine qs_mid (v := ?_) (by rfl) ?_ ?_; rotate_left 1; (· (intro j w' hj1 hj2 hS; go_simp; (try (simp only [↓IntWalk.iteOmega]; go_simp)); (try simp (disch := omega) only [IntWalk.i64_in]); try with_reducible rfl)); simp only [Act.put, List.setIfInBounds_toArray, List.set_cons_zero, List.set_cons_succ]) | (refine qs_skip (by rfl) ?_; simp only [Act.put, List.setIfInBounds_toArray, List.set_cons_zero, List.set_cons_succ])))
  refine qs_act ?_
  go_wp2_with (refine wpl_set rfl 5 (.tmp 22) (.const (.int .u8 2)) (by rfl) g 0 _ (by rfl) (by rfl) _ _ (show Blk _ g _ c3 from B3.out) info_u8 (by rw [C3.out]; simp) (by rfl) (by rfl) ?_; intro w4 hb hg hz; have B4 := Lib.hid hb; have G4 := Lib.hid hg; clear hb hg hz; simp only [Act.put, List.setIfInBounds_toArray, List.set_cons_zero, List.set_cons_succ])
  have K4 := Lib.hid (show Blk w4 w.heap.size 108 ndE from K3.out.drew.grown G4.out (by have := NG.out; simp; omega))
  refine ⟨K4.out.cell rfl, ?_⟩
  (repeat (first | (refine qs_now (v := ?_) (by rfl) ?_ ?_; rotate_left 1; (· (intro w' hS; go_simp; (try (simp only [↓IntWalk.iteOmega]; go_simp)); (try simp (disch := omega) only [IntWalk.i64_in]); try with_reducible rfl)); simp only [Act.put, List.setIfInBounds_toArray, List.set_cons_zero, List.set_cons_succ]) | (refine qs_run (v := ?_) (by rfl) ?_ ?_; rotate_left 1; (· (intro j w' hS; go_simp; (try (simp only [↓IntWalk.iteOmega]; go_simp)); (try simp (disch := omega) only [IntWalk.i64_in]); try with_reducible rfl)); simp only [Act.put, List.setIfInBounds_toArray, List.set_cons_zero, List.set_cons_succ]) | (refine qs_mid (v := ?_) (by rfl) ?_ ?_; rotate_left 1; (· (intro j w' hj1 hj2 hS; go_simp; (try (simp only [↓IntWalk.iteOmega]; go_simp)); (try simp (disch := omega) only [IntWalk.i64_in]); try with_reducible rfl)); simp only [Act.put, List.setIfInBounds_toArray, List.set_cons_zero, List.set_cons_succ]) | (refine qs_skip (by rfl) ?_; simp only [Act.put, List.setIfInBounds_toArray, List.set_cons_zero, List.set_cons_succ])))
  refine qs_act ?_
  go_wp2_with (refine wpl_set rfl 5 (.tmp 23) (.tmp 21) (by rfl) g 1 (.int .u8 0) (by rfl) (by rfl) _ _ B4.out info_u8 (by rw [C3.out]; simp) (by rfl) (by rfl) ?_; intro w5 hb hg hz; have B5 := Lib.hid hb; have G5 := Lib.hid hg; clear hb hg hz; simp only [Act.put, List.setIfInBounds_toArray, List.set_cons_zero, List.set_cons_succ])
  have K5 := Lib.hid (show Blk w5 w.heap.size 108 ndE from K4.out.grown G5.out (by have := NG.out; simp; omega))
  refine ⟨K5.out.cell rfl, ?_⟩
  (repeat (first | (refine qs_now (v := ?_) (by rfl) ?_ ?_; rotate_left 1; (· (intro w' hS; go_simp; (try (simp only [↓IntWalk.iteOmega]; go_simp)); (try simp (disch := omega) only [IntWalk.i64_in]); try with_reducible rfl)); simp only [Act.put, List.setIfInBounds_toArray, List.set_cons_zero, List.set_cons_succ]) | (refine qs_run (v := ?_) (by rfl) ?_ ?_; rotate_left 1; (· (intro j w' hS; go_simp; (try (simp only [↓IntWalk.iteOmega]; go_simp)); (try simp (disch := omega) only [IntWalk.i64_in]); try with_reducible rfl)); simp only [Act.put, List.setIfInBounds_toArray, List.set_cons_zero, List.set_cons_succ]) | (refine qs_mid (v := ?_) (by rfl) ?_ ?_; rotate_left 1; (· (intro j w' hj1 hj2 hS; go_simp; (try (simp only [↓IntWalk.iteOmega]; go_simp)); (try simp (disch := omega) only [IntWalk.i64_in]); try with_reducible rfl)); simp only [Act.put, List.setIfInBounds_toArray, List.set_cons_zero, List.set_cons_succ]) | (refine qs_skip (by rfl) ?_; simp only [Act.put, List.setIfInBounds_toArray, List.set_cons_zero, List.set_cons_succ])))
  refine qs_nil ?_
  have d0 := K5.out.cell (i := 0) rfl
  go_upto_region 6 with fail
  refine wp_region_qs (fun _ w' => w'.cell? ⟨w.heap.size, 1, none⟩ = some (.slice none 0 0)) [(0, some 0), (1, some 1), (2, some 1), (3, some 1), (4, some 1), (5, some 1), (6, some 0), (7, none), (8, some 1), (9, none)] (by kernel_rfl) (by kernel_rfl) (by kernel_rfl) (by kernel_rfl) (by kernel_rfl) (fun _ _ _ _ _ h => h) (K5.out.cell rfl) ?_
  simp only [List.map_cons, List.map_nil, List.getD_cons_succ, List.getD_cons_zero]
  (repeat (first | (refine qs_now (v := ?_) (by rfl) ?_ ?_; rotate_left 1; (· (intro w' hS; go_simp; (try (simp only [↓IntWalk.iteOmega]; go_simp)); (try simp (disch := omega) only [IntWalk.i64_in]); try with_reducible rfl)); simp only [Act.put, List.setIfInBounds_toArray, List.set_cons_zero, List.set_cons_succ]) | (refine qs_run (v := ?_) (by rfl) ?_ ?_; rotate_left 1; (· (intro j w' hS; go_simp; (try (simp only [↓IntWalk.iteOmega]; go_simp)); (try simp (disch := omega) only [IntWalk.i64_in]); try with_reducible rfl)); simp only [Act.put, List.setIfInBounds_toArray, List.set_cons_zero, List.set_cons_succ]) | (refine qs_mid (v := ?_) (by rfl) ?_ ?_; rotate_left 1; (· (intro j w' hj1 hj2 hS; go_simp; (try (simp only [↓IntWalk.iteOmega]; go_simp)); (try simp (disch := omega) only [IntWalk.i64_in]); try with_reducible rfl)); simp only [Act.put, List.setIfInBounds_toArray, List.set_cons_zero, List.set_cons_succ]) | (refine qs_skip (by rfl) ?_; simp only [Act.put, List.setIfInBounds_toArray, List.set_cons_zero, List.set_cons_succ])))
  refine qs_act ?_
  go_wp2_with (refine wpl_set rfl 5 (.tmp 32) (.const (.int .u8 1)) (by rfl) g 0 _ (by rfl) (by rfl) _ _ B5.out.drew info_u8 (by rw [C3.out]; simp) (by rfl) (by rfl) ?_; intro w6 hb hg hz; have B6 := Lib.hid hb; have G6 := Lib.hid hg; clear hb hg hz; simp only [Act.put, List.setIfInBounds_toArray, List.set_cons_zero, List.set_cons_succ])
  have K6 := Lib.hid (show Blk w6 w.heap.size 108 ndE from K5.out.drew.grown G6.out (by have := NG.out; simp; omega))
  refine ⟨K6.out.cell rfl, ?_⟩
  (repeat (first | (refine qs_now (v := ?_) (by rfl) ?_ ?_; rotate_left 1; (· (intro w' hS; go_simp; (try (simp only [↓IntWalk.iteOmega]; go_simp)); (try simp (disch := omega) only [IntWalk.i64_in]); try with_reducible rfl)); simp only [Act.put, List.setIfInBounds_toArray, List.set_cons_zero, List.set_cons_succ]) | (refine qs_run (v := ?_) (by rfl) ?_ ?_; rotate_left 1; (· (intro j w' hS; go_simp; (try (simp only [↓IntWalk.iteOmega]; go_simp)); (try simp (disch := omega) only [IntWalk.i64_in]); try with_reducible rfl)); simp only [Act.put, List.setIfInBounds_toArray, List.set_cons_zero, List.set_cons_succ]) | (refine qs_mid (v := ?_) (by rfl) ?_ ?_; rotate_left 1; (· (intro j w' hj1 hj2 hS; go_simp; (try (simp only [↓IntWalk.iteOmega]; go_simp)); (try simp (disch := omega) only [IntWalk.i64_in]); try with_reducible rfl)); simp only [Act.put, List.setIfInBounds_toArray, List.set_cons_zero, List.set_cons_succ]) | (refine qs_skip (by rfl) ?_; simp only [Act.put, List.setIfInBounds_toArray, List.set_cons_zero, List.set_cons_succ])))
  refine qs_act ?_
  go_wp2_with (refine wpl_set rfl 5 (.tmp 33) (.tmp 31) (by rfl) g 1 (.int .u8 0) (by rfl) (by rfl) _ _ B6.out info_u8 (by rw [C3.out]; simp) (by rfl) (by rfl) ?_; intro w7 hb hg hz; have B7 := Lib.hid hb; have G7 := Lib.hid hg; clear hb hg hz; simp only [Act.put, List.setIfInBounds_toArray, List.set_cons_zero, List.set_cons_succ])
  have K7 := Lib.hid (show Blk w7 w.heap.size 108 ndE from K6.out.grown G7.out (by have := NG.out; simp; omega))
  refine ⟨K7.out.cell rfl, ?_⟩
  (repeat (first | (refine qs_now (v := ?_) (by rfl) ?_ ?_; rotate_left 1; (· (intro w' hS; go_simp; (try (simp only [↓IntWalk.iteOmega]; go_simp)); (try simp (disch := omega) only [IntWalk.i64_in]); try with_reducible rfl)); simp only [Act.put, List.setIfInBounds_toArray, List.set_cons_zero, List.set_cons_succ]) | (refine qs_run (v := ?_) (by rfl) ?_ ?_; rotate_left 1; (· (intro j w' hS; go_simp; (try (simp only [↓IntWalk.iteOmega]; go_simp)); (try simp (disch := omega) only [IntWalk.i64_in]); try with_reducible rfl)); simp only [Act.put, List.setIfInBounds_toArray, List.set_cons_zero, List.set_cons_succ]) | (refine qs_mid (v := ?_) (by rfl) ?_ ?_; rotate_left 1; (· (intro j w' hj1 hj2 hS; go_simp; (try (simp only [↓IntWalk.iteOmega]; go_simp)); (try simp (disch := omega) only [IntWalk.i64_in]); try with_reducible rfl)); simp only [Act.put, List.setIfInBounds_toArray, List.set_cons_zero, List.set_cons_succ]) | (refine qs_skip (by rfl) ?_; simp only [Act.put, List.setIfInBounds_toArray, List.set_cons_zero, List.set_cons_succ])))
  refine qs_nil ?_
  have L7 := Lib.hid (show Below w.heap.size w w7 from by
    have n := NG.out
    exact bl_g (bl_g (bl_g (bl_g L3.out.drew G4.out (by omega)) G5.out (by omega)).drew G6.out (by omega)) G7.out (by omega))
  have d0 := K7.out.cell (i := 0) rfl
  have d1 := K7.out.cell (i := 1) rfl
  have d2 := K7.out.cell (i := 2) rfl
  have d3 := K7.out.cell (i := 3) rfl
  have B := Lib.hid (show Blk w7 g 5 (bV (ndRaw)).toArray from by
    have h := B7.out
    rw [C3.out] at h
    unfold ndRaw
    have e : (((((List.replicate 1024 (Value.int .u8 0)).toArray.setIfInBounds 0 (.int .u8 2)).setIfInBounds 1 (.int .u8 0)).setIfInBounds 0 (.int .u8 1)).setIfInBounds 1 (.int .u8 0)) = (bV ([1, 0] ++ List.replicate 1022 0)).toArray := by
      rw [List.replicate_succ, List.replicate_succ]
      simp only [List.setIfInBounds_toArray, List.set_cons_zero, List.set_cons_succ, bV, List.map_append, List.map_replicate, List.map_cons, List.map_nil, List.cons_append, List.nil_append]
    exact (congrArg (Blk w7 g _) e).mp h)
  clear B3 B5 B6 B7 C3 G4 G5 G6 G7 K3 K4 K5 K6
  go_wp2_with fail
  go_loopg [39] 0 (fun (k : Nat) kv wk => kv = .int .i64 0 ∧ wk = w7)
  · exact ⟨rfl, rfl⟩
  · obtain ⟨rfl, rfl⟩ := hrel
    go_wp2_with fail
    go_loopg [58] 0 (fun (k : Nat) kv wk => kv = .int .i64 0 ∧ wk = wr)
    · exact ⟨rfl, rfl⟩
    · obtain ⟨rfl, rfl⟩ := hrel
      go_wp2_with fail
      go_loopg [72] 0 (fun (k : Nat) kv wk => kv = .int .i64 0 ∧ wk = wr)
      · exact ⟨rfl, rfl⟩
      · obtain ⟨rfl, rfl⟩ := hrel
        go_upto_region 26 with fail
        obtain ⟨z, hz⟩ : ∃ z : Nat, z = (crcB ndZ).toNat := ⟨_, rfl⟩
        have HZ := Lib.hid hz
        clear hz
        refine wp_region_qs (fun _ w' => True) [(0, some 2), (1, some 1), (2, some 2), (3, some 1), (4, none), (5, none)] (by kernel_rfl) (by kernel_rfl) (by kernel_rfl) (by kernel_rfl) (by kernel_rfl) (fun _ _ _ _ _ h => h) trivial ?_
        simp only [List.map_cons, List.map_nil, List.getD_cons_succ, List.getD_cons_zero]
        (repeat (first | (refine qs_now (v := ?_) (by rfl) ?_ ?_; rotate_left 1; (· (intro w' hS; go_simp; (try (simp only [↓IntWalk.iteOmega]; go_simp)); (try simp (disch := omega) only [IntWalk.i64_in]); try with_reducible rfl)); simp only [Act.put, List.setIfInBounds_toArray, List.set_cons_zero, List.set_cons_succ]) | (refine qs_run (v := ?_) (by rfl) ?_ ?_; rotate_left 1; (· (intro j w' hS; go_simp; (try (simp only [↓IntWalk.iteOmega]; go_simp)); (try simp (disch := omega) only [IntWalk.i64_in]); try with_reducible rfl)); simp only [Act.put, List.setIfInBounds_toArray, List.set_cons_zero, List.set_cons_succ]) | (refine qs_mid (v := ?_) (by rfl) ?_ ?_; rotate_left 1; (· (intro j w' hj1 hj2 hS; go_simp; (try (simp only [↓IntWalk.iteOmega]; go_simp)); (try simp (disch := omega) only [IntWalk.i64_in]); try with_reducible rfl)); simp only [Act.put, List.setIfInBounds_toArray, List.set_cons_zero, List.set_cons_succ]) | (refine qs_skip (by rfl) ?_; simp only [Act.put, List.setIfInBounds_toArray, List.set_cons_zero, List.set_cons_succ])))
        refine qs_act ?_
        go_wp2_with (go_at_call 114; refine (crc_nd HZ.out B.out.drew).mono ?_; rintro e w8 ⟨rfl, hb⟩; have L8 := Lib.hid (below_chain L7.out.drew hb); have B8 := Lib.hid (B.out.drew.below hb (by have := B.out.lt; simpa using this)); clear hb)
        refine ⟨trivial, ?_⟩
        (repeat (first | (refine qs_now (v := ?_) (by rfl) ?_ ?_; rotate_left 1; (· (intro w' hS; go_simp; (try (simp only [↓IntWalk.iteOmega]; go_simp)); (try simp (disch := omega) only [IntWalk.i64_in]); try with_reducible rfl)); simp only [Act.put, List.setIfInBounds_toArray, List.set_cons_zero, List.set_cons_succ]) | (refine qs_run (v := ?_) (by rfl) ?_ ?_; rotate_left 1; (· (intro j w' hS; go_simp; (try (simp only [↓IntWalk.iteOmega]; go_simp)); (try simp (disch := omega) only [IntWalk.i64_in]); try with_reducible rfl)); simp only [Act.put, List.setIfInBounds_toArray, List.set_cons_zero, List.set_cons_succ]) | (refine qs_mid (v := ?_) (by rfl) ?_ ?_; rotate_left 1; (· (intro j w' hj1 hj2 hS; go_simp; (try (simp only [↓IntWalk.iteOmega]; go_simp)); (try simp (disch := omega) only [IntWalk.i64_in]); try with_reducible rfl)); simp only [Act.put, List.setIfInBounds_toArray, List.set_cons_zero, List.set_cons_succ]) | (refine qs_skip (by rfl) ?_; simp only [Act.put, List.setIfInBounds_toArray, List.set_cons_zero, List.set_cons_succ])))
        have F := Lib.hid (four_any B8.out nd_size z (by rw [HZ.out]; exact (crcB ndZ).isLt))
        refine qs_act ?_
        go_wp2_with (go_at_call 118; refine (F.out).mono ?_; rintro e w9 ⟨rfl, hb, hg⟩; have B9 := Lib.hid hb; have L9 := Lib.hid (bl_g L8.out hg (by have := NG.out; omega)); clear hb hg)
        refine ⟨trivial, ?_⟩
        (repeat (first | (refine qs_now (v := ?_) (by rfl) ?_ ?_; rotate_left 1; (· (intro w' hS; go_simp; (try (simp only [↓IntWalk.iteOmega]; go_simp)); (try simp (disch := omega) only [IntWalk.i64_in]); try with_reducible rfl)); simp only [Act.put, List.setIfInBounds_toArray, List.set_cons_zero, List.set_cons_succ]) | (refine qs_run (v := ?_) (by rfl) ?_ ?_; rotate_left 1; (· (intro j w' hS; go_simp; (try (simp only [↓IntWalk.iteOmega]; go_simp)); (try simp (disch := omega) only [IntWalk.i64_in]); try with_reducible rfl)); simp only [Act.put, List.setIfInBounds_toArray, List.set_cons_zero, List.set_cons_succ]) | (refine qs_mid (v := ?_) (by rfl) ?_ ?_; rotate_left 1; (· (intro j w' hj1 hj2 hS; go_simp; (try (simp only [↓IntWalk.iteOmega]; go_simp)); (try simp (disch := omega) only [IntWalk.i64_in]); try with_reducible rfl)); simp only [Act.put, List.setIfInBounds_toArray, List.set_cons_zero, List.set_cons_succ]) | (refine qs_skip (by rfl) ?_; simp only [Act.put, List.setIfInBounds_toArray, List.set_cons_zero, List.set_cons_succ])))
        refine qs_nil ?_
        go_wp2_with fail
        go_ret2
        refine ⟨g, rfl, ?_, by have := NG.out; omega, L9.out⟩
        have h := B9.out
        rw [HZ.out, nd_end] at h
        exact h
end Go.Proofs.YtpadifphnbdbpaaGreat
namespace Go.Proofs.YtpadifphnbdbpaaGreat
open Go.RowKit Go.Maps
set_option linter.unusedVariables false
set_option linter.unusedSimpArgs false
theorem qs_mk {P : Program} {l : List Oper} {Q : Exit → Act → World → Prop} {S : Nat → World → Prop} {o : Oper} {r : List (Oper × Option Nat)} {k m : Nat} {a : Act} {w : World} (hw : Region.wanted o (yielded l.toArray a.tmps) = true) (t : TypeId) (parts : Array (Nat × Operand)) (ho : o.op = .build t parts) (vals : List (Nat × Value)) (hl : parts.toList.map (fun x => (x.1, a.eval x.2)) = vals) (cs : Array Value) (hf : P.built t vals = some cs)
    (h : wpQs P l Q S r k (a.put o.dst (.agg cs)) w) : wpQs P l Q S ((o, some m) :: r) k a w := by
  refine qs_run hw (fun j w' _ => ?_) h
  have hf' : P.built t (parts.map fun (i, x) => (i, a.eval x)).toList = some cs := by
    rw [Array.toList_map]
    rw [← hl] at hf
    exact hf
  have hr := run_build w' t (parts.map fun (i, x) => (i, a.eval x)) cs hf'
  unfold execOp
  simp only [ho, Sem.run_bind, hr, Sem.run_pure, Result.andThen_ok]
theorem built_nd : Tryz.prog.built 108 [(0, .bool true)] = some ndE := by kernel_rfl
theorem nd_info : (Tryz.prog.info? 108).map (·.size) = some ndE.toList.length := by show _ = some 4; kernel_rfl
theorem nd_one : ∀ v ∈ ndE.toList, v.oneCell' = true := by intro v hv; simp [ndE] at hv; rcases hv with rfl | rfl <;> rfl
theorem ndRow_bytes : ∀ z ∈ ndRow, 0 ≤ z ∧ z < 256 := by
  intro z hz
  unfold ndRow at hz
  rcases List.mem_append.1 hz with h | h
  · exact ndZ_bytes z h
  · exact beL_bytes _ _ z h
theorem nd_cell {w : World} {b off : Nat} (h : RdI .u8 w (some ⟨b, off, none⟩) 1024 ndRow) (i : Nat) (v : Int) (hi : i < 1024) (hv : ndRow.getD i 0 = v) : w.cell? ⟨b, off + i, none⟩ = some (.int .u8 v) := by
  obtain ⟨b2, o2, e, hlt, hcell⟩ := h.2 (by omega)
  injection e with e
  injection e with e1 e2
  subst e1 e2
  have := hcell i hi
  rwa [hv] at this
set_option maxRecDepth 100000 in
theorem nd_get (b off cap : Nat) (w : World) (hr : RdI .u8 w (some ⟨b, off, none⟩) 1024 ndRow) (hc : 1024 ≤ cap) :
    Calls Tryz.prog 50 #[.slice (some ⟨b, off, none⟩) 1024 cap] w fun e w' => e = .returned (.tuple #[.agg ndE, .int .i64 0]) ∧ Below w.heap.size w w' := by
  have HR := Lib.hid hr
  have HC := Lib.hid hc
  clear hr hc
  go_enter Tryz.func50, Tryz.ntmps50
  go_upto_region 3 with (refine wpl_alloc rfl 108 (by rfl) Tryz.zeroValue108 4 (by rfl) ?_; intro w1 cs1 hk hc hg hz; have K1 := Lib.hid hk; have C1 := Lib.hid hc; have L1 := Lib.hid (bl_n (Below.refl _ _) hg); clear hk hc hg hz; simp only [Act.put, List.setIfInBounds_toArray, List.set_cons_zero, List.set_cons_succ])
  have hcp : ¬ cap = 4 := by have := HC.out; omega
  have hc0 := nd_cell (HR.out.below L1.out) 0 1 (by omega) rfl
  have hc1 := nd_cell (HR.out.below L1.out) 1 0 (by omega) rfl
  refine wp_region_qs (fun _ w' => w'.cell? ⟨b, off, none⟩ = some (.int .u8 1) ∧ w'.cell? ⟨b, off + 1, none⟩ = some (.int .u8 0)) [(0, some 1), (1, some 1), (2, some 1), (3, some 1), (4, some 1), (5, some 2), (6, some 2), (7, some 2), (8, some 2), (9, some 2), (10, some 2), (11, none), (12, none), (13, some 2), (14, some 2)] (by kernel_rfl) (by kernel_rfl) (by kernel_rfl) (by kernel_rfl) (by kernel_rfl) (fun _ _ _ _ _ h => h) ⟨hc0, hc1⟩ ?_
  simp only [List.map_cons, List.map_nil, List.getD_cons_succ, List.getD_cons_zero]
  (repeat (first | (refine qs_mk (by rfl) 108 _ (by rfl) [(0, .bool true)] (by rfl) ndE built_nd ?_; simp only [Act.put, List.setIfInBounds_toArray, List.set_cons_zero, List.set_cons_succ]) | (refine qs_now (v := ?_) (by rfl) ?_ ?_; rotate_left 1; (· (intro w' hS; go_simp; (try (simp only [↓IntWalk.iteOmega]; go_simp)); (try simp (disch := omega) only [IntWalk.i64_in]); try with_reducible rfl)); simp only [Act.put, List.setIfInBounds_toArray, List.set_cons_zero, List.set_cons_succ]) | (refine qs_run (v := ?_) (by rfl) ?_ ?_; rotate_left 1; (· (intro j w' hS; go_simp; (try (simp only [↓IntWalk.iteOmega]; go_simp)); (try simp (disch := omega) only [IntWalk.i64_in]); try with_reducible rfl)); simp only [Act.put, List.setIfInBounds_toArray, List.set_cons_zero, List.set_cons_succ]) | (refine qs_mid (v := ?_) (by rfl) ?_ ?_; rotate_left 1; (· (intro j w' hj1 hj2 hS; go_simp; (try (simp only [↓IntWalk.iteOmega]; go_simp)); (try simp (disch := omega) only [IntWalk.i64_in]); try with_reducible rfl)); simp only [Act.put, List.setIfInBounds_toArray, List.set_cons_zero, List.set_cons_succ]) | (refine qs_skip (by rfl) ?_; simp only [Act.put, List.setIfInBounds_toArray, List.set_cons_zero, List.set_cons_succ])))
  refine qs_act ?_
  go_wp2_with (refine wpl_alloc rfl 108 (by rfl) Tryz.zeroValue108 4 (by rfl) ?_; intro w2 cs2 hk hc hg hz; have B2 := Lib.hid hk; have C2 := Lib.hid hc; have L2 := Lib.hid (show Below w1.heap.size w1 w2 from bl_n (Below.refl w1.heap.size w1).drew hg); clear hk hc hg hz)
  have X2 := Lib.hid (below_chain L1.out L2.out)
  refine ⟨⟨nd_cell (HR.out.below X2.out) 0 1 (by omega) rfl, nd_cell (HR.out.below X2.out) 1 0 (by omega) rfl⟩, ?_⟩
  (repeat (first | (refine qs_now (v := ?_) (by rfl) ?_ ?_; rotate_left 1; (· (intro w' hS; go_simp; (try (simp only [↓IntWalk.iteOmega]; go_simp)); (try simp (disch := omega) only [IntWalk.i64_in]); try with_reducible rfl)); simp only [Act.put, List.setIfInBounds_toArray, List.set_cons_zero, List.set_cons_succ]) | (refine qs_run (v := ?_) (by rfl) ?_ ?_; rotate_left 1; (· (intro j w' hS; go_simp; (try (simp only [↓IntWalk.iteOmega]; go_simp)); (try simp (disch := omega) only [IntWalk.i64_in]); try with_reducible rfl)); simp only [Act.put, List.setIfInBounds_toArray, List.set_cons_zero, List.set_cons_succ]) | (refine qs_mid (v := ?_) (by rfl) ?_ ?_; rotate_left 1; (· (intro j w' hj1 hj2 hS; go_simp; (try (simp only [↓IntWalk.iteOmega]; go_simp)); (try simp (disch := omega) only [IntWalk.i64_in]); try with_reducible rfl)); simp only [Act.put, List.setIfInBounds_toArray, List.set_cons_zero, List.set_cons_succ]) | (refine qs_skip (by rfl) ?_; simp only [Act.put, List.setIfInBounds_toArray, List.set_cons_zero, List.set_cons_succ])))
  refine qs_act ?_
  go_wp2_with (refine wpl_over rfl 108 (.tmp 4) (.tmp 20) (by rfl) w1.heap.size ndE.toList (by rfl) (by rfl) _ cs2 B2.out nd_info (by rw [C2.out]; rfl) nd_one ?_; intro w3 hb hg hz; have B3 := Lib.hid hb; have L3 := Lib.hid (show Below w1.heap.size w1 w3 from bl_g L2.out hg (Nat.le_refl _)); clear hb hg hz)
  have X3 := Lib.hid (below_chain L1.out L3.out)
  refine ⟨⟨nd_cell (HR.out.below X3.out) 0 1 (by omega) rfl, nd_cell (HR.out.below X3.out) 1 0 (by omega) rfl⟩, ?_⟩
  (repeat (first | (refine qs_now (v := ?_) (by rfl) ?_ ?_; rotate_left 1; (· (intro w' hS; go_simp; (try (simp only [↓IntWalk.iteOmega]; go_simp)); (try simp (disch := omega) only [IntWalk.i64_in]); try with_reducible rfl)); simp only [Act.put, List.setIfInBounds_toArray, List.set_cons_zero, List.set_cons_succ]) | (refine qs_run (v := ?_) (by rfl) ?_ ?_; rotate_left 1; (· (intro j w' hS; go_simp; (try (simp only [↓IntWalk.iteOmega]; go_simp)); (try simp (disch := omega) only [IntWalk.i64_in]); try with_reducible rfl)); simp only [Act.put, List.setIfInBounds_toArray, List.set_cons_zero, List.set_cons_succ]) | (refine qs_mid (v := ?_) (by rfl) ?_ ?_; rotate_left 1; (· (intro j w' hj1 hj2 hS; go_simp; (try (simp only [↓IntWalk.iteOmega]; go_simp)); (try simp (disch := omega) only [IntWalk.i64_in]); try with_reducible rfl)); simp only [Act.put, List.setIfInBounds_toArray, List.set_cons_zero, List.set_cons_succ]) | (refine qs_skip (by rfl) ?_; simp only [Act.put, List.setIfInBounds_toArray, List.set_cons_zero, List.set_cons_succ])))
  refine qs_nil ?_
  have K3 := Lib.hid (K1.out.below L3.out K1.out.lt)
  have E3 := Lib.hid (show Blk w3 w1.heap.size 108 ndE from B3.out)
  have d0 := E3.out.cell (i := 0) rfl
  clear hc0 hc1 K1 B2 B3 C2 L1 L2 L3 X2
  generalize w1.heap.size = g at *
  go_wp2_with fail
  go_loopg [39] 0 (fun (k : Nat) kv wk => kv = .int .i64 0 ∧ wk = w3)
  · exact ⟨rfl, rfl⟩
  · obtain ⟨rfl, rfl⟩ := hrel
    go_wp2_with (first
      | (go_at_call 91; refine (equal_any ndRow ndRow (some ⟨r, 0, none⟩) (some ⟨b, off, none⟩) 1024 1024 1024 cap _ (rd_full R4.out ndRow_len) (HR.out.below X4.out) (by omega) (by omega) ndRow_bytes ndRow_bytes).mono ?_; rewrite [decide_eq_true rfl]; rintro e w5 ⟨rfl, rfl⟩)
      | (go_at_call 78; refine (nd_put _).mono ?_; rintro e w4 ⟨r, rfl, hb, hge, hl⟩; have R4 := Lib.hid hb; have X4 := Lib.hid (below_chain X3.out hl); have E4 := Lib.hid (E3.out.below hl E3.out.lt); have K4 := Lib.hid (K3.out.below hl K3.out.lt); clear hb hge hl)
      | (refine wpl_over rfl 108 (.tmp 2) (.tmp 124) (by rfl) w.heap.size ndE.toList (by rfl) (by rfl) _ cs1 K4.out nd_info (by rw [C1.out]; rfl) nd_one ?_; intro w6 hb hg hz; have B6 := Lib.hid hb; have L6 := Lib.hid (show Below w.heap.size w w6 from bl_g X4.out hg (Nat.le_refl _)); clear hb hg hz)
      | (refine wpl_load_blk rfl 108 (.tmp 4) (by rfl) g (by rfl) 108 _ E3.out _ Tryz.underlying108 rfl 4 info_nd rfl ?_; simp only [Act.put, List.setIfInBounds_toArray, List.set_cons_zero, List.set_cons_succ])
      | (refine wpl_load_blk rfl 108 (.tmp 4) (by rfl) g (by rfl) 108 _ E4.out _ Tryz.underlying108 rfl 4 info_nd rfl ?_; simp only [Act.put, List.setIfInBounds_toArray, List.set_cons_zero, List.set_cons_succ]))
    (try simp only [Exit.inBlock, Exit.then])
    refine bodyPost_ret (results_blk_tmp rfl _ w.heap.size rfl _ _ B6.out _ Tryz.underlying108 rfl 4 info_nd rfl) rfl ?_
    exact ⟨rfl, L6.out⟩
end Go.Proofs.YtpadifphnbdbpaaGreat
