/-
  peatbankkit on bytes: mark, markByte, LentBytes, KeptBytes.
-/
import Derived.Test.YtfehgpjnlkgekaaGreatDoorKitBytes
namespace Go.Proofs.YtfehgpjnlkgekaaGreatDoor
open Go.RowKit
set_option linter.unusedVariables false

theorem mark8 (k i : Int) (w : World) (hk : 0 ≤ k ∧ k ≤ 1000000000) (hi : 0 ≤ i ∧ i ≤ 1000000000000) :
    Calls Tryz.prog 85 #[.int .i64 k, .int .i64 i] w fun e w' => e = .returned (.int .i64 (1000003 * (k + 7) + i)) ∧ w = w' := by
  obtain ⟨h1, h2⟩ := hk
  obtain ⟨h3, h4⟩ := hi
  have h5 : 1000003 * (k + 7) ≤ 1000003 * 1000000007 := by omega
  have h6 : 0 ≤ 1000003 * (k + 7) := by omega
  go_enter Tryz.func85, Tryz.ntmps85
  go_wp2
  go_ret
  exact ⟨rfl, rfl⟩
/-- The mark of a place in a list of bytes. -/
def mb (k i : Int) : Int := IntKind.u64.wrap ((1000003 * (k + 7) + i) * 11400714819323198485) / 72057594037927936 % 256
theorem mb_bd (k i : Int) : 0 ≤ mb k i ∧ mb k i < 256 := by
  unfold mb
  omega
theorem markByte_any (k i : Int) (w : World) (hk : 0 ≤ k ∧ k ≤ 1000000000) (hi : 0 ≤ i ∧ i ≤ 1000000000000) :
    Calls Tryz.prog 87 #[.int .i64 k, .int .i64 i] w fun e w' => e = .returned (.int .u8 (mb k i)) ∧ w = w' := by
  go_enter Tryz.func87, Tryz.ntmps87
  go_wp2_with (go_at_call 85; refine (mark8 k i _ hk hi).mono ?_; rintro ev w' ⟨rfl, rfl⟩)
  go_ret
  exact ⟨rfl, rfl⟩
/-- Behind what is lent stand twelve marks. -/
def marks8 (k : Nat) : List Int := (List.range k).map fun i : Nat => mb 1 (i : Int)
theorem marks8_succ (k : Nat) : marks8 (k + 1) = marks8 k ++ [mb 1 (k : Int)] := by simp [marks8, List.range_succ]
def LentPost (zs : List Int) (n : Nat) (w : World) (e : Ending) (w' : World) : Prop :=
  ∃ g c, e = .returned (.slice (some ⟨g, 0, none⟩) n c) ∧ n + 12 ≤ c ∧ w'.ownsRow w.heap.size 5 1 (.slice (some ⟨g, 0, none⟩) (n + 12) c) (n + 12) ((zs ++ marks8 12).map (Value.int .u8)) ∧ Below w.heap.size w w'
def Y2 (zs : List Int) (n : Nat) (w : World) (k0 : Nat) (v iv : Value) (wr : World) : Prop :=
  ∃ (k : Nat), k + k0 = 12 ∧ iv = .int .i64 k ∧ wr.ownsRow w.heap.size 5 1 v (n + k) ((zs ++ marks8 k).map (Value.int .u8)) ∧ Below w.heap.size w wr
set_option maxHeartbeats 800000 in
theorem lent_bytes (zs : List Int) (A : Option Addr) (n cap : Nat) (w : World) (ha : RdI .u8 w A n zs) (hn : n ≤ 1000000000) :
    Calls Tryz.prog 72 #[.slice A n cap] w (LentPost zs n w) := by
  have HA := Lib.hid ha
  have hl := Lib.hid ha.1
  clear ha
  obtain ⟨i0, hi, hz0, hz1, hz2⟩ := info_parts infoByte
  have HI := Lib.hid hi
  have HZ0 := Lib.hid hz0
  have HZ1 := Lib.hid hz1
  have HZ2 := Lib.hid hz2
  clear hi hz0 hz1 hz2
  go_enter Tryz.func72, Tryz.ntmps72
  go_wp2_with (first
    | (at_make; refine wpList_make_own w rfl (.const (.int .i64 0)) (.tmp 7) 24 rfl w.heap.size 5 i0 _ 1 Tryz.underlying24 HI.out HZ0.out HZ1.out .i64 .i64 _ (n + 12) rfl rfl (by omega) (by rw [HZ2.out]; omega) (by unfold maxLen; omega) (Nat.le_refl _) ?_; intro w1 ho1 hg1; have O1 := Lib.hid ho1; have L1 := Lib.hid (bl_n (Below.refl _ _) hg1); clear ho1 hg1)
    | (refine app_src rfl (.tmp 9) (.tmp 10) 24 rfl w.heap.size 5 _ 1 1 Tryz.underlying24 infoByte rfl (by omega) _ 0 _ rfl O1.out _ n _ rfl ((Src.of_rd HA.out).below L1.out) (bytes_oneCell _) (by omega) (by omega) L1.out.size ?_; intro v2 w2 ho2 hg2 hor2; have O2 := Lib.hid ho2; have L2 := Lib.hid (L1.out.grown hg2 L1.out.size (fun k hk => (O1.out.lt k hk).1)); clear ho2 hg2 hor2))
  go_loopg [3, 4] 12 (Y2 zs n w)
  case atStart => exact ⟨0, by omega, rfl, by simpa [marks8] using O2.out, L2.out⟩
  case round =>
    obtain ⟨k, hk, rfl, ho, hbel⟩ := hrel
    have HO := Lib.hid ho
    have HBel := Lib.hid hbel
    clear ho hbel
    by_cases hlt : k < 12
    · have hltI : (k : Int) < 12 := by omega
      go_wp2_with (first
        | (go_at_call 87; refine (markByte_any 1 k _ (by omega) (by omega)).mono ?_; rintro ev w' ⟨rfl, rfl⟩)
        | (refine app_src rfl (.tmp 16) (.tmp 19) 24 rfl w.heap.size 5 _ 1 1 Tryz.underlying24 infoByte rfl (by omega) _ (n + k) _ rfl (HO.out.alloc _) _ 1 [Value.int .u8 (mb 1 (k : Int))] rfl (src8 _ _ _) (by simp [Value.oneCell']) (by omega) (by omega) (by have := HBel.out.size; simp; omega) ?_; intro v2 w2 ho2 hg2 hor2; have O2 := Lib.hid ho2; have G2 := Lib.hid hg2; clear ho2 hg2 hor2))
      have L2 := Lib.hid ((HBel.out.alloc HBel.out.size _).grown G2.out (by have := HBel.out.size; simp; omega) (fun k hk => (HO.out.lt k hk).1))
      go_roundg (gk - 1)
      case measure => omega
      case rel =>
        refine ⟨k + 1, by omega, by go_num, ?_, L2.out⟩
        rw [marks8_succ, show n + (k + 1) = n + k + 1 from rfl]
        simpa using O2.out
    · obtain rfl : k = 12 := by omega
      obtain ⟨g, c, hv, _, hlt2⟩ := HO.out.form (by omega)
      obtain ⟨A2, c2, hv2, hc2⟩ := own_slice HO.out
      subst hv
      injection hv2 with hA2 _ hv2
      subst hv2
      subst hA2
      go_wp2
      go_ret
      exact ⟨g, c, rfl, hc2, HO.out, HBel.out⟩

def Y3 (n : Nat) (w : World) (k0 : Nat) (iv : Value) (wr : World) : Prop := ∃ k : Nat, k + k0 = n + 12 ∧ iv = .int .i64 k ∧ Below w.heap.size w wr
set_option maxHeartbeats 1600000 in
/-- What was lent, and has not turned, is kept. -/
theorem kept_bytes (zs : List Int) (A : Option Addr) (g n c cap base : Nat) (w : World) (ha : RdI .u8 w A n zs) (ho : w.ownsRow base 5 1 (.slice (some ⟨g, 0, none⟩) (n + 12) c) (n + 12) ((zs ++ marks8 12).map (Value.int .u8))) (hc : n + 12 ≤ c) (hn : n ≤ 1000000000) :
    Calls Tryz.prog 76 #[.slice (some ⟨g, 0, none⟩) n c, .slice A n cap] w fun e w' => e = .returned (.bool true) ∧ Below w.heap.size w w' := by
  have HA := Lib.hid ha
  have hl := Lib.hid ha.1
  have HO := Lib.hid ho
  clear ha ho
  have d0 : ((n : Int) != n) = false := by simp
  have hcI : (n : Int) + 12 ≤ c := by omega
  go_enter Tryz.func76, Tryz.ntmps76
  go_wp2
  go_loopg [6] (n + 12) (Y3 n w)
  case atStart => exact ⟨0, by omega, rfl, Below.refl _ _⟩
  case round =>
    obtain ⟨k, hk, rfl, hbel⟩ := hrel
    have HBel := Lib.hid hbel
    clear hbel
    by_cases hlt : k < n + 12
    · have hltI : (k : Int) < (n : Int) + 12 := by omega
      have hglt : g < w.heap.size := (HO.out.lt g rfl).2
      have q0 := keep8 HBel.out hglt (HO.out.cellAt k (by omega))
      by_cases hkn : k < n
      · have d1 : decide ((k : Int) < n) = true := by simp; omega
        have d2 : decide ((n : Int) ≤ k) = false := by simp; omega
        have d1' : decide (k < n) = true := by simpa using hkn
        have d2' : decide (n ≤ k) = false := by simp; omega
        obtain ⟨b, off, rfl, _, hx⟩ := HA.out.cell HBel.out hkn
        have e1 : ((zs ++ marks8 12).map (Value.int .u8))[k]? = some (.int .u8 (zs.getD k 0)) := by
          have : k < zs.length := by have := hl.out; omega
          rw [List.map_append, List.getElem?_append_left (by simpa using this)]
          simp [this]
        rw [e1] at q0
        clear e1
        generalize zs.getD k 0 = x at *
        have d3 : (x == x) = true := by simp
        have hkI : (k : Int) < n := by omega
        go_wp2
        refine wp_region_qs (fun _ w' => w'.cell? ⟨g, k, none⟩ = some (.int .u8 x) ∧ w'.cell? ⟨b, off + k, none⟩ = some (.int .u8 x)) [(0, some 1), (1, some 1), (2, some 1), (3, some 1), (4, some 1), (5, some 1), (6, some 1), (7, some 1), (8, some 1), (9, some 1), (10, some 1), (11, some 1), (12, some 1), (13, some 1), (14, some 1), (15, some 1), (16, some 1), (17, some 1), (18, some 1), (19, some 1), (20, some 1), (21, some 0), (22, some 1), (23, some 1), (24, some 1), (25, some 1), (26, some 1), (27, some 1), (28, some 1), (29, some 0), (30, none), (31, some 1), (32, some 1), (33, some 1), (34, some 1)] (by kernel_rfl) (by kernel_rfl) (by kernel_rfl) (by kernel_rfl) (by kernel_rfl) (fun _ _ _ _ _ h => h) ⟨q0, hx⟩ ?_
        simp only [List.map_cons, List.map_nil, List.getD_cons_succ, List.getD_cons_zero]
        (repeat (first | (refine qs_now (v := ?_) (by rfl) ?_ ?_; rotate_left 1; (· (intro w' hS; go_simp; (try (simp only [↓IntWalk.iteOmega]; go_simp)); (try simp (disch := omega) only [IntWalk.i64_in]); try with_reducible rfl)); simp only [Act.put, List.setIfInBounds_toArray, List.set_cons_zero, List.set_cons_succ]) | (refine qs_run (v := ?_) (by rfl) ?_ ?_; rotate_left 1; (· (intro j w' hS; go_simp; (try (simp only [↓IntWalk.iteOmega]; go_simp)); (try simp (disch := omega) only [IntWalk.i64_in]); try with_reducible rfl)); simp only [Act.put, List.setIfInBounds_toArray, List.set_cons_zero, List.set_cons_succ]) | (refine qs_skip (by rfl) ?_; simp only [Act.put, List.setIfInBounds_toArray, List.set_cons_zero, List.set_cons_succ])))
        refine qs_act ?_
        go_wp2
        refine ⟨⟨q0, hx⟩, ?_⟩
        (repeat (first | (refine qs_now (v := ?_) (by rfl) ?_ ?_; rotate_left 1; (· (intro w' hS; go_simp; (try (simp only [↓IntWalk.iteOmega]; go_simp)); (try simp (disch := omega) only [IntWalk.i64_in]); try with_reducible rfl)); simp only [Act.put, List.setIfInBounds_toArray, List.set_cons_zero, List.set_cons_succ]) | (refine qs_run (v := ?_) (by rfl) ?_ ?_; rotate_left 1; (· (intro j w' hS; go_simp; (try (simp only [↓IntWalk.iteOmega]; go_simp)); (try simp (disch := omega) only [IntWalk.i64_in]); try with_reducible rfl)); simp only [Act.put, List.setIfInBounds_toArray, List.set_cons_zero, List.set_cons_succ]) | (refine qs_skip (by rfl) ?_; simp only [Act.put, List.setIfInBounds_toArray, List.set_cons_zero, List.set_cons_succ])))
        refine qs_nil ?_
        go_wp2
        go_roundg (gk - 1)
        case measure => omega
        case rel => exact ⟨k + 1, by omega, by go_num, HBel.out.drew⟩
      · have d1 : decide ((k : Int) < n) = false := by simp; omega
        have d2 : decide ((n : Int) ≤ k) = true := by simp; omega
        have d1' : decide (k < n) = false := by simpa using hkn
        have d2' : decide (n ≤ k) = true := by simp; omega
        have e1 : ((zs ++ marks8 12).map (Value.int .u8))[k]? = some (.int .u8 (mb 1 ((k - n : Nat) : Int))) := by
          have h1 := hl.out
          have h2 : k - zs.length < 12 := by omega
          have h3 : (marks8 12)[k - zs.length]? = some (mb 1 ((k - n : Nat) : Int)) := by rw [h1]; simp [marks8, show k - n < 12 by omega]
          rw [List.map_append, List.getElem?_append_right (by simp; omega)]
          simp only [List.length_map, List.getElem?_map, h3, Option.map_some]
        rw [e1] at q0
        clear e1
        have hsub : (k : Int) - n = ((k - n : Nat) : Int) := by omega
        have hkn0 : k - n < 12 := by omega
        obtain ⟨j, hj⟩ : ∃ j, j = k - n := ⟨_, rfl⟩
        rw [← hj] at hsub q0 hkn0
        have HSub := Lib.hid hsub
        have HJ := Lib.hid hj
        clear hj hsub
        have hwr : IntKind.i64.wrap ((k : Int) - n) = (j : Int) := by rw [HSub.out]; exact IntWalk.i64_in _ (by omega)
        have hmj := Lib.hid (markByte_any 1 j w.drew (by omega) (by omega))
        obtain ⟨y, hy⟩ : ∃ y, y = mb 1 (j : Int) := ⟨_, rfl⟩
        have HY := Lib.hid hy
        rw [← hy] at q0
        clear hy
        have d3 : (y == y) = true := by simp
        go_wp2
        refine wp_region_qs (fun _ w' => w'.cell? ⟨g, k, none⟩ = some (.int .u8 y)) [(0, some 1), (1, some 1), (2, some 1), (3, some 1), (4, some 1), (5, some 1), (6, some 1), (7, some 1), (8, some 1), (9, some 1), (10, some 1), (11, some 1), (12, some 1), (13, some 1), (14, some 1), (15, some 1), (16, some 1), (17, some 1), (18, some 1), (19, some 1), (20, some 1), (21, some 0), (22, some 1), (23, some 1), (24, some 1), (25, some 1), (26, some 1), (27, some 1), (28, some 1), (29, some 0), (30, none), (31, some 1), (32, some 1), (33, some 1), (34, some 1)] (by kernel_rfl) (by kernel_rfl) (by kernel_rfl) (by kernel_rfl) (by kernel_rfl) (fun _ _ _ _ _ h => h) q0 ?_
        simp only [List.map_cons, List.map_nil, List.getD_cons_succ, List.getD_cons_zero]
        (repeat (first | (refine qs_now (v := ?_) (by rfl) ?_ ?_; rotate_left 1; (· (intro w' hS; go_simp; (try (simp only [↓IntWalk.iteOmega]; go_simp)); (try simp (disch := omega) only [IntWalk.i64_in]); try with_reducible rfl)); simp only [Act.put, List.setIfInBounds_toArray, List.set_cons_zero, List.set_cons_succ]) | (refine qs_run (v := ?_) (by rfl) ?_ ?_; rotate_left 1; (· (intro j w' hS; go_simp; (try (simp only [↓IntWalk.iteOmega]; go_simp)); (try simp (disch := omega) only [IntWalk.i64_in]); try with_reducible rfl)); simp only [Act.put, List.setIfInBounds_toArray, List.set_cons_zero, List.set_cons_succ]) | (refine qs_skip (by rfl) ?_; simp only [Act.put, List.setIfInBounds_toArray, List.set_cons_zero, List.set_cons_succ])))
        refine qs_act ?_
        go_wp2_with (go_at_call 87; refine (markByte_any 1 j _ (by omega) (by omega)).mono ?_; rintro ev w' ⟨rfl, rfl⟩; rw [← HY.out])
        refine ⟨q0, ?_⟩
        (repeat (first | (refine qs_now (v := ?_) (by rfl) ?_ ?_; rotate_left 1; (· (intro w' hS; go_simp; (try (simp only [↓IntWalk.iteOmega]; go_simp)); (try simp (disch := omega) only [IntWalk.i64_in]); try with_reducible rfl)); simp only [Act.put, List.setIfInBounds_toArray, List.set_cons_zero, List.set_cons_succ]) | (refine qs_run (v := ?_) (by rfl) ?_ ?_; rotate_left 1; (· (intro j w' hS; go_simp; (try (simp only [↓IntWalk.iteOmega]; go_simp)); (try simp (disch := omega) only [IntWalk.i64_in]); try with_reducible rfl)); simp only [Act.put, List.setIfInBounds_toArray, List.set_cons_zero, List.set_cons_succ]) | (refine qs_skip (by rfl) ?_; simp only [Act.put, List.setIfInBounds_toArray, List.set_cons_zero, List.set_cons_succ])))
        refine qs_nil ?_
        clear hwr
        go_wp2
        go_roundg (gk - 1)
        case measure => omega
        case rel => exact ⟨k + 1, by omega, by go_num, HBel.out.drew⟩
    · obtain rfl : k = n + 12 := by omega
      go_wp2
      go_ret
      exact ⟨rfl, HBel.out⟩
end Go.Proofs.YtfehgpjnlkgekaaGreatDoor
