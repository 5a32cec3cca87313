/-
  what this claim needs of: StS3 (written by cut.py).
-/
import Derived.Test.YtgjjdfhoakailaaGreatBStS2
namespace Go.Proofs.YtgjjdfhoakailaaGreat
open Go.RowKit Go.Maps Go.Sort Go.Shelf
set_option linter.unusedVariables false
set_option linter.unusedSimpArgs false

theorem slIs_len (n : Nat) (g : MpF) (id : Int) : (slIs n g id).length ≤ n := by
  induction n with
  | zero => simp [slIs]
  | succ n ih =>
    have := slI_len g id n
    rw [slIs_succ, List.length_append]
    omega
theorem mSl_len (n : Nat) (hn : n ≤ 512) (f : MpF) (M : SnM) : ∀ ids : List Int, (mSl n f M ids).length ≤ ids.length * 512
  | [] => by simp [mSl]
  | id :: ids => by
    have h1 := mSl_len n hn f M ids
    have h2 := slIs_len n (gAt f M id) id
    unfold mSl at *
    rw [List.flatMap_cons, List.length_append, List.length_cons]
    omega
theorem mItems_len {n : Nat} (hn : n ≤ 512) (f : MpF) (M : SnM) : (mItems n f M).length ≤ (M.length + 1) * 512 + M.length := by
  have h1 := mSl_len n hn f M (0 :: sIds M)
  unfold mItems
  rw [List.length_append, List.length_map, sIds_len]
  rw [List.length_cons, sIds_len] at h1
  omega
/-- A state's items. -/
def stItems (n : Nat) (E : ExM) (f : MpF) (M : SnM) : List It := xItems E ++ mItems n f M
theorem st_items {w : World} {si xi bx mi bs n : Nat} {E : ExM} {f : MpF} {M : SnM} (h : StIs w si xi bx mi bs n E f M) (hE : E.length ≤ 100000000) (hM : IdsOk M) :
    Calls Tryz.prog 19 #[.pointer (some ⟨si, 0, none⟩)] w (MItPost (stItems n E f M) w) := by
  have H := Lib.hid h
  have HE := Lib.hid hE
  have HM := Lib.hid hM
  have c0 := h.c0
  have c1 := h.c1
  have c2 := h.c2
  clear h hE hM
  go_enter Tryz.func19, Tryz.ntmps19
  go_wp2_with (go_at_call 40; refine (st_there H.out).mono ?_; rintro e w1 ⟨rfl, rfl⟩)
  refine wp_region_qs (fun _ w' => w'.cell? ⟨si, 1, none⟩ = some (.pointer (some ⟨xi, 0, none⟩)) ∧ w'.cell? ⟨si, 2, none⟩ = some (.pointer (some ⟨mi, 0, none⟩))) [(0, some 3), (1, some 3), (2, some 3), (3, some 2), (5, some 3), (6, some 3), (7, some 3), (8, some 2), (4, none), (9, none), (10, none), (11, some 3)] (by kernel_rfl) (by kernel_rfl) (by kernel_rfl) (by kernel_rfl) (by kernel_rfl) (fun _ _ _ _ _ h => h) ⟨c1, c2⟩ ?_
  simp only [List.map_cons, List.map_nil, List.getD_cons_succ, List.getD_cons_zero]
  (repeat (first | (refine qs_now (v := ?_) (by rfl) ?_ ?_; rotate_left 1; (· (intro w' hS; go_simp; (try (simp only [↓IntWalk.iteOmega]; go_simp)); (try simp (disch := omega) only [IntWalk.i64_in]); try with_reducible rfl)); simp only [Act.put, List.setIfInBounds_toArray, List.set_cons_zero, List.set_cons_succ]) | (refine qs_run (v := ?_) (by rfl) ?_ ?_; rotate_left 1; (· (intro j w' hS; go_simp; (try (simp only [↓IntWalk.iteOmega]; go_simp)); (try simp (disch := omega) only [IntWalk.i64_in]); try with_reducible rfl)); simp only [Act.put, List.setIfInBounds_toArray, List.set_cons_zero, List.set_cons_succ]) | (refine qs_mid (v := ?_) (by rfl) ?_ ?_; rotate_left 1; (· (intro j w' hj1 hj2 hS; go_simp; (try (simp only [↓IntWalk.iteOmega]; go_simp)); (try simp (disch := omega) only [IntWalk.i64_in]); try with_reducible rfl)); simp only [Act.put, List.setIfInBounds_toArray, List.set_cons_zero, List.set_cons_succ]) | (refine qs_skip (by rfl) ?_; simp only [Act.put, List.setIfInBounds_toArray, List.set_cons_zero, List.set_cons_succ])))
  refine qs_act ?_
  go_wp2_with (go_at_call 23; refine (xItems_any H.out.drew.idx HE.out).mono ?_; rintro e w2 ⟨v, rfl, ho, hb⟩; have O2 := Lib.hid ho; have L2 := Lib.hid hb; clear ho hb)
  have L2' := Lib.hid (show Below w.heap.size w w2 from below_chain (Below.refl _ _).drew L2.out)
  have H2 := Lib.hid (H.out.below L2'.out)
  refine ⟨⟨H2.out.c1, H2.out.c2⟩, ?_⟩
  refine qs_act ?_
  go_wp2_with (go_at_call 48; refine (mItems_any H2.out.maps HM.out).mono ?_; rintro e w3 ⟨v3, rfl, ho, hb⟩; have O3 := Lib.hid ho; have L3 := Lib.hid hb; clear ho hb)
  have H3 := Lib.hid (H2.out.below L3.out)
  refine ⟨⟨H3.out.c1, H3.out.c2⟩, ?_⟩
  refine qs_act ?_
  have O2' := Lib.hid (own_belowR O2.out L3.out)
  have hl := Lib.hid (show (xItems E).length + (mItems n f M).length ≤ 1000000000 by
    have h1 := mItems_len H.out.maps.high f M
    have h2 := xItems_len E
    have h3 := HE.out
    have h4 := HM.out.1
    omega)
  go_wp2_with ((with_reducible show wpList _ _ _ (_ :: _) _ _); refine wpl_app_its rfl (.tmp 10) (.tmp 15) rfl w.heap.size v (xItems E) rfl O2'.out v3 (mItems n f M) rfl (Src.of_own O3.out) hl.out (Nat.le_trans L2'.out.size L3.out.size) ?_; intro v4 w4 ho hg; have O4 := Lib.hid ho; have G4 := Lib.hid hg; clear ho hg)
  have L4 := Lib.hid (show Below w.heap.size w w4 from (below_chain L2'.out L3.out).grown G4.out (Nat.le_trans L2'.out.size L3.out.size) (fun k hk => (own_at O2'.out k hk).1))
  have H4 := Lib.hid (H.out.below L4.out)
  refine ⟨⟨H4.out.c1, H4.out.c2⟩, ?_⟩
  (repeat (first | (refine qs_now (v := ?_) (by rfl) ?_ ?_; rotate_left 1; (· (intro w' hS; go_simp; (try (simp only [↓IntWalk.iteOmega]; go_simp)); (try simp (disch := omega) only [IntWalk.i64_in]); try with_reducible rfl)); simp only [Act.put, List.setIfInBounds_toArray, List.set_cons_zero, List.set_cons_succ]) | (refine qs_run (v := ?_) (by rfl) ?_ ?_; rotate_left 1; (· (intro j w' hS; go_simp; (try (simp only [↓IntWalk.iteOmega]; go_simp)); (try simp (disch := omega) only [IntWalk.i64_in]); try with_reducible rfl)); simp only [Act.put, List.setIfInBounds_toArray, List.set_cons_zero, List.set_cons_succ]) | (refine qs_mid (v := ?_) (by rfl) ?_ ?_; rotate_left 1; (· (intro j w' hj1 hj2 hS; go_simp; (try (simp only [↓IntWalk.iteOmega]; go_simp)); (try simp (disch := omega) only [IntWalk.i64_in]); try with_reducible rfl)); simp only [Act.put, List.setIfInBounds_toArray, List.set_cons_zero, List.set_cons_succ]) | (refine qs_skip (by rfl) ?_; simp only [Act.put, List.setIfInBounds_toArray, List.set_cons_zero, List.set_cons_succ])))
  refine qs_nil ?_
  go_wp2_with fail
  go_ret
  exact ⟨_, rfl, O4.out, L4.out⟩
theorem countC_nil : countC [] = [] := by simp [countC, cntL, sumF, rowC, nz]
set_option maxRecDepth 100000 in
set_option maxHeartbeats 1000000 in
theorem makes_nil {w : World} (n : Int) (A : Option Addr) (c : Nat) : Calls Tryz.prog 64 #[.int .i64 n, .slice A 0 c] w fun e w' => e = .returned (.bool true) ∧ Below w.heap.size w w' := by
  have hmm := @run_makeMap Tryz.prog
  go_enter Tryz.func64, Tryz.ntmps64
  go_wp2_with fail
  obtain ⟨w1, hw1⟩ : ∃ w1, w1 = w.alloc (Obj.map #[] 0) := ⟨_, rfl⟩
  have L1 := Lib.hid (show Below w.heap.size w w1 by rw [hw1]; exact (Below.refl _ _).alloc (Nat.le_refl _) _)
  rw [← hw1]
  clear hw1
  go_loopg [6, 25] 0 (fun k sv iv wr => sv = .int .i64 0 ∧ iv = .int .i64 0 ∧ Below w.heap.size w wr)
  case atStart => exact ⟨rfl, rfl, L1.out⟩
  case round =>
    obtain ⟨rfl, rfl, hb⟩ := hrel
    have L2 := Lib.hid hb
    clear hb L1
    go_wp2_with fail
    obtain ⟨w2, hw2⟩ : ∃ w2, w2 = wr.alloc (Obj.map #[] 0) := ⟨_, rfl⟩
    have L3 := Lib.hid (show Below w.heap.size w w2 by rw [hw2]; exact L2.out.alloc L2.out.size _)
    rw [← hw2]
    clear hw2
    have HS := Lib.hid (show ∀ W : World, Src W 73 (.slice A 0 c) 0 (itsC []) from fun W => ⟨A, c, rfl, rfl, fun h => absurd h (by omega)⟩)
    go_wp2_with (go_at_call 47; refine (count_any (HS.out w2) rfl (by omega)).mono ?_; rintro e w3 ⟨v, rfl, ho, hb⟩; rw [countC_nil] at ho; have O := Lib.hid (show w3.ownsRow w2.heap.size 89 33 v 0 [] from ho); have L4 := Lib.hid (below_chain L3.out hb); clear ho hb; obtain ⟨A3, c3, rfl, -⟩ := Src.of_own O.out)
    go_loopg [60] 0 (fun k iv wr => iv = .int .i64 0 ∧ Below w.heap.size w wr)
    case atStart => exact ⟨rfl, L4.out⟩
    case round =>
      obtain ⟨rfl, hb⟩ := hrel
      have L5 := Lib.hid hb
      clear hb L4
      go_wp2_with fail
      go_loopg [72] 0 (fun k iv wr => iv = .int .i64 0 ∧ Below w.heap.size w wr)
      case atStart => exact ⟨rfl, L5.out⟩
      case round =>
        obtain ⟨rfl, hb⟩ := hrel
        have L6 := Lib.hid hb
        clear hb L5
        go_wp2_with fail
        go_ret
        exact ⟨rfl, L6.out⟩
end Go.Proofs.YtgjjdfhoakailaaGreat
