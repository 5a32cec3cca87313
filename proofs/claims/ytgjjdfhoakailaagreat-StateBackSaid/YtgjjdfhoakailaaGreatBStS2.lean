/-
  what this claim needs of: StS2 (written by cut.py).
-/
import Derived.Test.YtgjjdfhoakailaaGreatBStS1
import Derived.Test.YtgjjdfhoakailaaGreatBStM
namespace Go.Proofs.YtgjjdfhoakailaaGreat
open Go.RowKit Go.Maps Go.Sort Go.Shelf
set_option linter.unusedVariables false
set_option linter.unusedSimpArgs false

theorem opc_cells {w : World} {b : Nat} {o : OpV} {A : Option Addr} {c : Nat} {B : Option Addr} {d : Nat} (h : Blk w b 35 (opC o A c B d).toArray) :
    w.cell? ⟨b, 0, none⟩ = some (.int .u8 o.kind) ∧ w.cell? ⟨b, 1, none⟩ = some (.int .i64 o.pos) ∧ w.cell? ⟨b, 2, none⟩ = some (.int .i64 o.n) ∧ w.cell? ⟨b, 3, none⟩ = some (.int .i64 o.snap) ∧ w.cell? ⟨b, 4, none⟩ = some (.slice A o.news.length c) ∧ w.cell? ⟨b, 5, none⟩ = some (.slice B o.puts.length d) :=
  ⟨h.cell rfl, h.cell rfl, h.cell rfl, h.cell rfl, h.cell rfl, h.cell rfl⟩
/-- What a small op ends with: an error's number, and what the maps are. -/
def SmallPost (si xi bx mi bs n : Nat) (E : ExM) (R : Int → MpF → SnM → Prop) (w : World) (e : Ending) (w' : World) : Prop :=
  ∃ r f' M', e = .returned (.int .i64 r) ∧ R r f' M' ∧ StIs w' si xi bx mi bs n E f' M' ∧ Tch [mi, bs] w w'
theorem tch_two {mi bs : Nat} {T : List Nat} {w w1 w2 : World} (hb : Below w.heap.size w w1) (hT : Tch T w1.drew w2) (h : ∀ k ∈ T, k = mi ∨ k = bs) : Tch [mi, bs] w w2 := by
  have h1 : Tch [mi, bs] w w1.drew := Tch.below hb.drew
  exact h1.trans (hT.mono (fun k hk => by rcases h k hk with rfl | rfl <;> simp))
theorem discard_any {w : World} {si xi bx mi bs n : Nat} {E : ExM} {f : MpF} {M : SnM} (h : StIs w si xi bx mi bs n E f M) (o : OpV) (A : Option Addr) (c : Nat) (B : Option Addr) (d : Nat) (hi : True) :
    Calls Tryz.prog 43 #[.pointer (some ⟨si, 0, none⟩), .agg (opC o A c B d).toArray] w (SmallPost si xi bx mi bs n E (fun r f' M' => r = clrE n o.pos o.n ∧ f' = clrF n f o.pos o.n ∧ M' = M) w) := by
  have H := Lib.hid h
  clear h
  have HI := Lib.hid hi
  clear hi
  go_enter Tryz.func43, Tryz.ntmps43
  go_upto_region 1 with ((with_reducible show wpList _ _ _ (_ :: _) _ _); refine wpl_box rfl 35 (.tmp 1) rfl _ rfl ?_; intro w1 hk hg hz; have K := Lib.hid hk; have L1 := Lib.hid (bl_n (Below.refl _ _) hg); clear hk hg hz)
  have H1 := Lib.hid (H.out.below L1.out)
  have c2 := H1.out.c2
  have hc := opc_cells K.out
  obtain ⟨k0, k1, k2, k3, k4, k5⟩ := hc
  refine wp_region_qs (fun _ w' => w'.cell? ⟨si, 2, none⟩ = some (.pointer (some ⟨mi, 0, none⟩)) ∧ w'.cell? ⟨w.heap.size, 1, none⟩ = some (.int .i64 o.pos) ∧ w'.cell? ⟨w.heap.size, 2, none⟩ = some (.int .i64 o.n)) [(0, some 1), (1, some 1), (2, some 1), (3, some 0), (4, some 1), (5, some 0), (6, some 1), (7, some 0), (8, none), (9, some 1)] (by kernel_rfl) (by kernel_rfl) (by kernel_rfl) (by kernel_rfl) (by kernel_rfl) (fun _ _ _ _ _ h => h) ⟨c2, k1, k2⟩ ?_
  simp only [List.map_cons, List.map_nil, List.getD_cons_succ, List.getD_cons_zero]
  (repeat (first | (refine qs_now (v := ?_) (by rfl) ?_ ?_; rotate_left 1; (· (intro w' hS; go_simp; (try (simp only [↓IntWalk.iteOmega]; go_simp)); (try simp (disch := omega) only [IntWalk.i64_in]); try with_reducible rfl)); simp only [Act.put, List.setIfInBounds_toArray, List.set_cons_zero, List.set_cons_succ]) | (refine qs_run (v := ?_) (by rfl) ?_ ?_; rotate_left 1; (· (intro j w' hS; go_simp; (try (simp only [↓IntWalk.iteOmega]; go_simp)); (try simp (disch := omega) only [IntWalk.i64_in]); try with_reducible rfl)); simp only [Act.put, List.setIfInBounds_toArray, List.set_cons_zero, List.set_cons_succ]) | (refine qs_mid (v := ?_) (by rfl) ?_ ?_; rotate_left 1; (· (intro j w' hj1 hj2 hS; go_simp; (try (simp only [↓IntWalk.iteOmega]; go_simp)); (try simp (disch := omega) only [IntWalk.i64_in]); try with_reducible rfl)); simp only [Act.put, List.setIfInBounds_toArray, List.set_cons_zero, List.set_cons_succ]) | (refine qs_skip (by rfl) ?_; simp only [Act.put, List.setIfInBounds_toArray, List.set_cons_zero, List.set_cons_succ])))
  refine qs_act ?_
  go_wp2_with (go_at_call 81; refine (clear_any H1.out.drew.maps o.pos o.n).mono ?_; rintro e w2 ⟨rfl, h1, h2⟩; have M2 := Lib.hid h1; have T2 := Lib.hid h2; clear h1 h2)
  have Kd := Lib.hid K.out.drew
  have c2' := (H1.out.drew.newMaps M2.out T2.out (fun k hk => by simp at hk; exact .inl hk)).c2
  have hne : w.heap.size ∉ ([mi] : List Nat) := by
    have := H.out.maps.blk.lt
    have := H.out.maps.map.lt
    simp
    omega
  have hc2 := opc_cells (Kd.out.tch T2.out hne)
  refine ⟨⟨c2', hc2.2.1, hc2.2.2.1⟩, ?_⟩
  (repeat (first | (refine qs_now (v := ?_) (by rfl) ?_ ?_; rotate_left 1; (· (intro w' hS; go_simp; (try (simp only [↓IntWalk.iteOmega]; go_simp)); (try simp (disch := omega) only [IntWalk.i64_in]); try with_reducible rfl)); simp only [Act.put, List.setIfInBounds_toArray, List.set_cons_zero, List.set_cons_succ]) | (refine qs_run (v := ?_) (by rfl) ?_ ?_; rotate_left 1; (· (intro j w' hS; go_simp; (try (simp only [↓IntWalk.iteOmega]; go_simp)); (try simp (disch := omega) only [IntWalk.i64_in]); try with_reducible rfl)); simp only [Act.put, List.setIfInBounds_toArray, List.set_cons_zero, List.set_cons_succ]) | (refine qs_mid (v := ?_) (by rfl) ?_ ?_; rotate_left 1; (· (intro j w' hj1 hj2 hS; go_simp; (try (simp only [↓IntWalk.iteOmega]; go_simp)); (try simp (disch := omega) only [IntWalk.i64_in]); try with_reducible rfl)); simp only [Act.put, List.setIfInBounds_toArray, List.set_cons_zero, List.set_cons_succ]) | (refine qs_skip (by rfl) ?_; simp only [Act.put, List.setIfInBounds_toArray, List.set_cons_zero, List.set_cons_succ])))
  refine qs_nil ?_
  go_wp2_with fail
  go_ret
  exact ⟨_, _, _, rfl, ⟨rfl, rfl, rfl⟩, H1.out.drew.newMaps M2.out T2.out (fun k hk => by simp at hk; exact .inl hk), tch_two L1.out T2.out (fun k hk => by simp at hk; exact .inl hk)⟩
/-- A snapshot is kept, at whatever place. -/
def SnapR (f : MpF) (M : SnM) (id : Int) (r : Int) (f' : MpF) (M' : SnM) : Prop := r = snapE M id ∧ f' = f ∧ ((snapE M id ≠ 0 ∧ M' = M) ∨ (snapE M id = 0 ∧ ∃ g, M' = aput M id (g, f)))
theorem snapshot_any {w : World} {si xi bx mi bs n : Nat} {E : ExM} {f : MpF} {M : SnM} (h : StIs w si xi bx mi bs n E f M) (o : OpV) (A : Option Addr) (c : Nat) (B : Option Addr) (d : Nat) (hi : True) :
    Calls Tryz.prog 44 #[.pointer (some ⟨si, 0, none⟩), .agg (opC o A c B d).toArray] w (SmallPost si xi bx mi bs n E (fun r f' M' => SnapR f M o.snap r f' M') w) := by
  have H := Lib.hid h
  clear h
  have HI := Lib.hid hi
  clear hi
  go_enter Tryz.func44, Tryz.ntmps44
  go_upto_region 1 with ((with_reducible show wpList _ _ _ (_ :: _) _ _); refine wpl_box rfl 35 (.tmp 1) rfl _ rfl ?_; intro w1 hk hg hz; have K := Lib.hid hk; have L1 := Lib.hid (bl_n (Below.refl _ _) hg); clear hk hg hz)
  have H1 := Lib.hid (H.out.below L1.out)
  have c2 := H1.out.c2
  have hc := opc_cells K.out
  obtain ⟨k0, k1, k2, k3, k4, k5⟩ := hc
  refine wp_region_qs (fun _ w' => w'.cell? ⟨si, 2, none⟩ = some (.pointer (some ⟨mi, 0, none⟩)) ∧ w'.cell? ⟨w.heap.size, 3, none⟩ = some (.int .i64 o.snap)) [(0, some 1), (1, some 1), (2, some 1), (3, some 0), (4, some 1), (5, some 0), (6, none), (7, some 1)] (by kernel_rfl) (by kernel_rfl) (by kernel_rfl) (by kernel_rfl) (by kernel_rfl) (fun _ _ _ _ _ h => h) ⟨c2, k3⟩ ?_
  simp only [List.map_cons, List.map_nil, List.getD_cons_succ, List.getD_cons_zero]
  (repeat (first | (refine qs_now (v := ?_) (by rfl) ?_ ?_; rotate_left 1; (· (intro w' hS; go_simp; (try (simp only [↓IntWalk.iteOmega]; go_simp)); (try simp (disch := omega) only [IntWalk.i64_in]); try with_reducible rfl)); simp only [Act.put, List.setIfInBounds_toArray, List.set_cons_zero, List.set_cons_succ]) | (refine qs_run (v := ?_) (by rfl) ?_ ?_; rotate_left 1; (· (intro j w' hS; go_simp; (try (simp only [↓IntWalk.iteOmega]; go_simp)); (try simp (disch := omega) only [IntWalk.i64_in]); try with_reducible rfl)); simp only [Act.put, List.setIfInBounds_toArray, List.set_cons_zero, List.set_cons_succ]) | (refine qs_mid (v := ?_) (by rfl) ?_ ?_; rotate_left 1; (· (intro j w' hj1 hj2 hS; go_simp; (try (simp only [↓IntWalk.iteOmega]; go_simp)); (try simp (disch := omega) only [IntWalk.i64_in]); try with_reducible rfl)); simp only [Act.put, List.setIfInBounds_toArray, List.set_cons_zero, List.set_cons_succ]) | (refine qs_skip (by rfl) ?_; simp only [Act.put, List.setIfInBounds_toArray, List.set_cons_zero, List.set_cons_succ])))
  refine qs_act ?_
  go_wp2_with (go_at_call 80; refine (snap_any H1.out.drew.maps o.snap).mono ?_; rintro e w2 ⟨rfl, h2, h1⟩; have M1 := Lib.hid h1; have T2 := Lib.hid h2; clear h1 h2; obtain ⟨M', hM', hR⟩ : ∃ M', MapsIs w2 mi bs n f M' ∧ SnapR f M o.snap (snapE M o.snap) f M' := (by rcases M1.out with ⟨h1, h2⟩ | ⟨h1, g, h2, _⟩; exact ⟨_, h2, rfl, rfl, .inl ⟨h1, rfl⟩⟩; exact ⟨_, h2, rfl, rfl, .inr ⟨h1, g, rfl⟩⟩); have M2 := Lib.hid hM'; have HR := Lib.hid hR; clear hM' hR M1)
  have Kd := Lib.hid K.out.drew
  have c2' := (H1.out.drew.newMaps M2.out T2.out (fun k hk => by simp at hk; exact .inr hk)).c2
  have hne : w.heap.size ∉ ([bs] : List Nat) := by
    have := H.out.maps.blk.lt
    have := H.out.maps.map.lt
    simp
    omega
  have hc2 := opc_cells (Kd.out.tch T2.out hne)
  refine ⟨⟨c2', hc2.2.2.2.1⟩, ?_⟩
  (repeat (first | (refine qs_now (v := ?_) (by rfl) ?_ ?_; rotate_left 1; (· (intro w' hS; go_simp; (try (simp only [↓IntWalk.iteOmega]; go_simp)); (try simp (disch := omega) only [IntWalk.i64_in]); try with_reducible rfl)); simp only [Act.put, List.setIfInBounds_toArray, List.set_cons_zero, List.set_cons_succ]) | (refine qs_run (v := ?_) (by rfl) ?_ ?_; rotate_left 1; (· (intro j w' hS; go_simp; (try (simp only [↓IntWalk.iteOmega]; go_simp)); (try simp (disch := omega) only [IntWalk.i64_in]); try with_reducible rfl)); simp only [Act.put, List.setIfInBounds_toArray, List.set_cons_zero, List.set_cons_succ]) | (refine qs_mid (v := ?_) (by rfl) ?_ ?_; rotate_left 1; (· (intro j w' hj1 hj2 hS; go_simp; (try (simp only [↓IntWalk.iteOmega]; go_simp)); (try simp (disch := omega) only [IntWalk.i64_in]); try with_reducible rfl)); simp only [Act.put, List.setIfInBounds_toArray, List.set_cons_zero, List.set_cons_succ]) | (refine qs_skip (by rfl) ?_; simp only [Act.put, List.setIfInBounds_toArray, List.set_cons_zero, List.set_cons_succ])))
  refine qs_nil ?_
  go_wp2_with fail
  go_ret
  exact ⟨_, _, _, rfl, HR.out, H1.out.drew.newMaps M2.out T2.out (fun k hk => by simp at hk; exact .inr hk), tch_two L1.out T2.out (fun k hk => by simp at hk; exact .inr hk)⟩
theorem drop_st {w : World} {si xi bx mi bs n : Nat} {E : ExM} {f : MpF} {M : SnM} (h : StIs w si xi bx mi bs n E f M) (o : OpV) (A : Option Addr) (c : Nat) (B : Option Addr) (d : Nat) (hi : -9223372036854775808 ≤ o.snap ∧ o.snap ≤ 9223372036854775807) :
    Calls Tryz.prog 45 #[.pointer (some ⟨si, 0, none⟩), .agg (opC o A c B d).toArray] w (SmallPost si xi bx mi bs n E (fun r f' M' => r = dropE M o.snap ∧ f' = f ∧ M' = adel M o.snap) w) := by
  have H := Lib.hid h
  clear h
  have HI := Lib.hid hi
  clear hi
  go_enter Tryz.func45, Tryz.ntmps45
  go_upto_region 1 with ((with_reducible show wpList _ _ _ (_ :: _) _ _); refine wpl_box rfl 35 (.tmp 1) rfl _ rfl ?_; intro w1 hk hg hz; have K := Lib.hid hk; have L1 := Lib.hid (bl_n (Below.refl _ _) hg); clear hk hg hz)
  have H1 := Lib.hid (H.out.below L1.out)
  have c2 := H1.out.c2
  have hc := opc_cells K.out
  obtain ⟨k0, k1, k2, k3, k4, k5⟩ := hc
  refine wp_region_qs (fun _ w' => w'.cell? ⟨si, 2, none⟩ = some (.pointer (some ⟨mi, 0, none⟩)) ∧ w'.cell? ⟨w.heap.size, 3, none⟩ = some (.int .i64 o.snap)) [(0, some 1), (1, some 1), (2, some 1), (3, some 0), (4, some 1), (5, some 0), (6, none), (7, some 1)] (by kernel_rfl) (by kernel_rfl) (by kernel_rfl) (by kernel_rfl) (by kernel_rfl) (fun _ _ _ _ _ h => h) ⟨c2, k3⟩ ?_
  simp only [List.map_cons, List.map_nil, List.getD_cons_succ, List.getD_cons_zero]
  (repeat (first | (refine qs_now (v := ?_) (by rfl) ?_ ?_; rotate_left 1; (· (intro w' hS; go_simp; (try (simp only [↓IntWalk.iteOmega]; go_simp)); (try simp (disch := omega) only [IntWalk.i64_in]); try with_reducible rfl)); simp only [Act.put, List.setIfInBounds_toArray, List.set_cons_zero, List.set_cons_succ]) | (refine qs_run (v := ?_) (by rfl) ?_ ?_; rotate_left 1; (· (intro j w' hS; go_simp; (try (simp only [↓IntWalk.iteOmega]; go_simp)); (try simp (disch := omega) only [IntWalk.i64_in]); try with_reducible rfl)); simp only [Act.put, List.setIfInBounds_toArray, List.set_cons_zero, List.set_cons_succ]) | (refine qs_mid (v := ?_) (by rfl) ?_ ?_; rotate_left 1; (· (intro j w' hj1 hj2 hS; go_simp; (try (simp only [↓IntWalk.iteOmega]; go_simp)); (try simp (disch := omega) only [IntWalk.i64_in]); try with_reducible rfl)); simp only [Act.put, List.setIfInBounds_toArray, List.set_cons_zero, List.set_cons_succ]) | (refine qs_skip (by rfl) ?_; simp only [Act.put, List.setIfInBounds_toArray, List.set_cons_zero, List.set_cons_succ])))
  refine qs_act ?_
  go_wp2_with (go_at_call 93; refine (drop_any H1.out.drew.maps o.snap HI.out).mono ?_; rintro e w2 ⟨rfl, h2, h1⟩; have M2 := Lib.hid h1; have T2 := Lib.hid h2; clear h1 h2)
  have Kd := Lib.hid K.out.drew
  have c2' := (H1.out.drew.newMaps M2.out T2.out (fun k hk => by simp at hk; exact .inr hk)).c2
  have hne : w.heap.size ∉ ([bs] : List Nat) := by
    have := H.out.maps.blk.lt
    have := H.out.maps.map.lt
    simp
    omega
  have hc2 := opc_cells (Kd.out.tch T2.out hne)
  refine ⟨⟨c2', hc2.2.2.2.1⟩, ?_⟩
  (repeat (first | (refine qs_now (v := ?_) (by rfl) ?_ ?_; rotate_left 1; (· (intro w' hS; go_simp; (try (simp only [↓IntWalk.iteOmega]; go_simp)); (try simp (disch := omega) only [IntWalk.i64_in]); try with_reducible rfl)); simp only [Act.put, List.setIfInBounds_toArray, List.set_cons_zero, List.set_cons_succ]) | (refine qs_run (v := ?_) (by rfl) ?_ ?_; rotate_left 1; (· (intro j w' hS; go_simp; (try (simp only [↓IntWalk.iteOmega]; go_simp)); (try simp (disch := omega) only [IntWalk.i64_in]); try with_reducible rfl)); simp only [Act.put, List.setIfInBounds_toArray, List.set_cons_zero, List.set_cons_succ]) | (refine qs_mid (v := ?_) (by rfl) ?_ ?_; rotate_left 1; (· (intro j w' hj1 hj2 hS; go_simp; (try (simp only [↓IntWalk.iteOmega]; go_simp)); (try simp (disch := omega) only [IntWalk.i64_in]); try with_reducible rfl)); simp only [Act.put, List.setIfInBounds_toArray, List.set_cons_zero, List.set_cons_succ]) | (refine qs_skip (by rfl) ?_; simp only [Act.put, List.setIfInBounds_toArray, List.set_cons_zero, List.set_cons_succ])))
  refine qs_nil ?_
  go_wp2_with fail
  go_ret
  exact ⟨_, _, _, rfl, ⟨rfl, rfl, rfl⟩, H1.out.drew.newMaps M2.out T2.out (fun k hk => by simp at hk; exact .inr hk), tch_two L1.out T2.out (fun k hk => by simp at hk; exact .inr hk)⟩
theorem rollback_any {w : World} {si xi bx mi bs n : Nat} {E : ExM} {f : MpF} {M : SnM} (h : StIs w si xi bx mi bs n E f M) (o : OpV) (A : Option Addr) (c : Nat) (B : Option Addr) (d : Nat) (hi : -9223372036854775808 ≤ o.snap ∧ o.snap ≤ 9223372036854775807) :
    Calls Tryz.prog 46 #[.pointer (some ⟨si, 0, none⟩), .agg (opC o A c B d).toArray] w (SmallPost si xi bx mi bs n E (fun r f' M' => r = dropE M o.snap ∧ f' = backF f M o.snap ∧ M' = M) w) := by
  have H := Lib.hid h
  clear h
  have HI := Lib.hid hi
  clear hi
  go_enter Tryz.func46, Tryz.ntmps46
  go_upto_region 1 with ((with_reducible show wpList _ _ _ (_ :: _) _ _); refine wpl_box rfl 35 (.tmp 1) rfl _ rfl ?_; intro w1 hk hg hz; have K := Lib.hid hk; have L1 := Lib.hid (bl_n (Below.refl _ _) hg); clear hk hg hz)
  have H1 := Lib.hid (H.out.below L1.out)
  have c2 := H1.out.c2
  have hc := opc_cells K.out
  obtain ⟨k0, k1, k2, k3, k4, k5⟩ := hc
  refine wp_region_qs (fun _ w' => w'.cell? ⟨si, 2, none⟩ = some (.pointer (some ⟨mi, 0, none⟩)) ∧ w'.cell? ⟨w.heap.size, 3, none⟩ = some (.int .i64 o.snap)) [(0, some 1), (1, some 1), (2, some 1), (3, some 0), (4, some 1), (5, some 0), (6, none), (7, some 1)] (by kernel_rfl) (by kernel_rfl) (by kernel_rfl) (by kernel_rfl) (by kernel_rfl) (fun _ _ _ _ _ h => h) ⟨c2, k3⟩ ?_
  simp only [List.map_cons, List.map_nil, List.getD_cons_succ, List.getD_cons_zero]
  (repeat (first | (refine qs_now (v := ?_) (by rfl) ?_ ?_; rotate_left 1; (· (intro w' hS; go_simp; (try (simp only [↓IntWalk.iteOmega]; go_simp)); (try simp (disch := omega) only [IntWalk.i64_in]); try with_reducible rfl)); simp only [Act.put, List.setIfInBounds_toArray, List.set_cons_zero, List.set_cons_succ]) | (refine qs_run (v := ?_) (by rfl) ?_ ?_; rotate_left 1; (· (intro j w' hS; go_simp; (try (simp only [↓IntWalk.iteOmega]; go_simp)); (try simp (disch := omega) only [IntWalk.i64_in]); try with_reducible rfl)); simp only [Act.put, List.setIfInBounds_toArray, List.set_cons_zero, List.set_cons_succ]) | (refine qs_mid (v := ?_) (by rfl) ?_ ?_; rotate_left 1; (· (intro j w' hj1 hj2 hS; go_simp; (try (simp only [↓IntWalk.iteOmega]; go_simp)); (try simp (disch := omega) only [IntWalk.i64_in]); try with_reducible rfl)); simp only [Act.put, List.setIfInBounds_toArray, List.set_cons_zero, List.set_cons_succ]) | (refine qs_skip (by rfl) ?_; simp only [Act.put, List.setIfInBounds_toArray, List.set_cons_zero, List.set_cons_succ])))
  refine qs_act ?_
  go_wp2_with (go_at_call 94; refine (back_maps H1.out.drew.maps o.snap HI.out).mono ?_; rintro e w2 ⟨rfl, h2, h1⟩; have M2 := Lib.hid h1; have T2 := Lib.hid h2; clear h1 h2)
  have Kd := Lib.hid K.out.drew
  have c2' := (H1.out.drew.newMaps M2.out T2.out (fun k hk => by simp at hk; exact .inl hk)).c2
  have hne : w.heap.size ∉ ([mi] : List Nat) := by
    have := H.out.maps.blk.lt
    have := H.out.maps.map.lt
    simp
    omega
  have hc2 := opc_cells (Kd.out.tch T2.out hne)
  refine ⟨⟨c2', hc2.2.2.2.1⟩, ?_⟩
  (repeat (first | (refine qs_now (v := ?_) (by rfl) ?_ ?_; rotate_left 1; (· (intro w' hS; go_simp; (try (simp only [↓IntWalk.iteOmega]; go_simp)); (try simp (disch := omega) only [IntWalk.i64_in]); try with_reducible rfl)); simp only [Act.put, List.setIfInBounds_toArray, List.set_cons_zero, List.set_cons_succ]) | (refine qs_run (v := ?_) (by rfl) ?_ ?_; rotate_left 1; (· (intro j w' hS; go_simp; (try (simp only [↓IntWalk.iteOmega]; go_simp)); (try simp (disch := omega) only [IntWalk.i64_in]); try with_reducible rfl)); simp only [Act.put, List.setIfInBounds_toArray, List.set_cons_zero, List.set_cons_succ]) | (refine qs_mid (v := ?_) (by rfl) ?_ ?_; rotate_left 1; (· (intro j w' hj1 hj2 hS; go_simp; (try (simp only [↓IntWalk.iteOmega]; go_simp)); (try simp (disch := omega) only [IntWalk.i64_in]); try with_reducible rfl)); simp only [Act.put, List.setIfInBounds_toArray, List.set_cons_zero, List.set_cons_succ]) | (refine qs_skip (by rfl) ?_; simp only [Act.put, List.setIfInBounds_toArray, List.set_cons_zero, List.set_cons_succ])))
  refine qs_nil ?_
  go_wp2_with fail
  go_ret
  exact ⟨_, _, _, rfl, ⟨rfl, rfl, rfl⟩, H1.out.drew.newMaps M2.out T2.out (fun k hk => by simp at hk; exact .inl hk), tch_two L1.out T2.out (fun k hk => by simp at hk; exact .inl hk)⟩
end Go.Proofs.YtgjjdfhoakailaaGreat
