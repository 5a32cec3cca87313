/-
  what this claim needs of: StS1, StS3 (written by cut.py).
-/
import Derived.Test.YtpadifphnbdbpaaGreatPStMapE
import Derived.Test.YtpadifphnbdbpaaGreatPStX
import Derived.Test.YtpadifphnbdbpaaGreatPStM7
import Derived.Test.YtpadifphnbdbpaaGreatPStM
namespace Go.Proofs.YtpadifphnbdbpaaGreat
open Go.RowKit Go.Maps Go.Sort Go.Shelf
set_option linter.unusedVariables false
set_option linter.unusedSimpArgs false

abbrev stC (n : Int) (x m : Option Addr) : Array Value := #[.int .i64 n, .pointer x, .pointer m]
structure StIs (w : World) (si xi bx mi bs n : Nat) (E : ExM) (f : MpF) (M : SnM) : Prop where
  blk : Blk w si 42 (stC n (some ⟨xi, 0, none⟩) (some ⟨mi, 0, none⟩))
  idx : IdxIs w xi bx E
  maps : MapsIs w mi bs n f M
  ne : bx ≠ bs
section
variable {w w' : World} {si xi bx mi bs n : Nat} {E : ExM} {f : MpF} {M : SnM}
theorem StIs.tch {T : List Nat} (h : StIs w si xi bx mi bs n E f M) (hb : Tch T w w') (h0 : si ∉ T) (h1 : xi ∉ T) (h2 : bx ∉ T) (h3 : mi ∉ T) (h4 : bs ∉ T) (h5 : ∀ p ∈ M, p.2.1 ∉ T) : StIs w' si xi bx mi bs n E f M :=
  ⟨h.blk.tch hb h0, h.idx.tch hb h1 h2, h.maps.tch hb h3 h4 h5, h.ne⟩
theorem StIs.below (h : StIs w si xi bx mi bs n E f M) (hb : Below w.heap.size w w') : StIs w' si xi bx mi bs n E f M := h.tch (T := []) (Tch.below hb) (by simp) (by simp) (by simp) (by simp) (by simp) (by simp)
theorem StIs.drew (h : StIs w si xi bx mi bs n E f M) : StIs w.drew si xi bx mi bs n E f M := h.below (Below.refl _ _).drew
theorem StIs.c0 (h : StIs w si xi bx mi bs n E f M) : w.cell? ⟨si, 0, none⟩ = some (.int .i64 (n : Int)) := h.blk.cell rfl
theorem StIs.c1 (h : StIs w si xi bx mi bs n E f M) : w.cell? ⟨si, 1, none⟩ = some (.pointer (some ⟨xi, 0, none⟩)) := h.blk.cell rfl
theorem StIs.c2 (h : StIs w si xi bx mi bs n E f M) : w.cell? ⟨si, 2, none⟩ = some (.pointer (some ⟨mi, 0, none⟩)) := h.blk.cell rfl
end
theorem built_st (n : Int) (x m : Option Addr) : Tryz.prog.built 42 [(0, .int .i64 n), (1, .pointer x), (2, .pointer m)] = some (stC n x m) := by kernel_rfl
theorem built_st0 : Tryz.prog.built 42 [] = some (stC 0 none none) := by kernel_rfl
def StNewPost (n : Nat) (w : World) (e : Ending) (w' : World) : Prop := ∃ si xi bx mi bs, e = .returned (.pointer (some ⟨si, 0, none⟩)) ∧ StIs w' si xi bx mi bs n [] zF [] ∧ Below w.heap.size w w' ∧ w.heap.size ≤ si ∧ w.heap.size ≤ xi ∧ w.heap.size ≤ bx ∧ w.heap.size ≤ mi ∧ w.heap.size ≤ bs
theorem st_new (k : Nat) (hk : 1 ≤ k ∧ k ≤ 512) (w : World) : Calls Tryz.prog 9 #[.int .i64 (k : Int)] w (StNewPost k w) := by
  have HK := Lib.hid hk
  clear hk
  go_enter Tryz.func9, Tryz.ntmps9
  go_wp2_with (first
    | (go_at_call 18; refine (maps_new k HK.out w).mono ?_; rintro e w1 ⟨mi, bs, rfl, hm, h1, h2, hb⟩; have M1 := Lib.hid hm; have A1 := Lib.hid (And.intro h1 h2); have L1 := Lib.hid hb; clear hm h1 h2 hb)
    | (go_at_call 19; refine (idx_new w1).mono ?_; rintro e w2 ⟨xi, bx, rfl, hx, h1, h2, hb⟩; have X2 := Lib.hid hx; have A2 := Lib.hid (And.intro h1 h2); have L2 := Lib.hid hb; clear hx h1 h2 hb)
    | ((with_reducible show wpList _ _ _ (_ :: _) _ _); refine wpl_mk rfl 42 #[(0, .tmp 8), (1, .tmp 9), (2, .tmp 10)] rfl [(0, .int .i64 (k : Int)), (1, .pointer (some ⟨xi, 0, none⟩)), (2, .pointer (some ⟨mi, 0, none⟩))] rfl _ (built_st _ _ _) ?_)
    | ((with_reducible show wpList _ _ _ (_ :: _) _ _); refine wpl_box rfl 42 (.tmp 11) rfl _ rfl ?_; intro w3 hk hg hz; have K := Lib.hid hk; have G := Lib.hid hg; clear hk hg hz))
  go_ret
  have hL2 : Below w1.heap.size w1 w2 := L2.out
  have hw1 := L1.out.size
  have hw2 := L2.out.size
  have hbx := X2.out.map.lt
  have hbs := M1.out.map.lt
  have hA2 := A2.out
  have hA1 := A1.out
  refine ⟨w2.heap.size, xi, bx, mi, bs, rfl, ⟨K.out, X2.out.grown G.out, (M1.out.below hL2).grown G.out, by omega⟩, bl_n (below_chain L1.out hL2) G.out, by omega, by omega, by omega, by omega, by omega⟩
theorem st_there {w : World} {si xi bx mi bs n : Nat} {E : ExM} {f : MpF} {M : SnM} (h : StIs w si xi bx mi bs n E f M) : Calls Tryz.prog 43 #[.pointer (some ⟨si, 0, none⟩)] w fun e w' => e = .returned (.bool true) ∧ w = w' := by
  have c0 := h.c0
  have hn : 0 < n := h.maps.low
  clear h
  go_enter Tryz.func43, Tryz.ntmps43
  go_wp2
  go_ret
  exact ⟨rfl, rfl⟩
theorem st_there_nil (w : World) : Calls Tryz.prog 43 #[.pointer none] w fun e w' => e = .returned (.bool false) ∧ w = w' := by
  go_enter Tryz.func43, Tryz.ntmps43
  go_wp2
  go_ret
  exact ⟨rfl, rfl⟩
theorem st_there_zero {w : World} {b : Nat} (h : Blk w b 42 (stC 0 none none)) : Calls Tryz.prog 43 #[.pointer (some ⟨b, 0, none⟩)] w fun e w' => e = .returned (.bool false) ∧ w = w' := by
  have c0 := h.cell (i := 0) rfl
  clear h
  go_enter Tryz.func43, Tryz.ntmps43
  go_wp2
  go_ret
  exact ⟨rfl, rfl⟩
/-- A state that isn't there. -/
inductive NoSt (w : World) : Value → Prop
  | nil : NoSt w (.pointer none)
  | zero {b : Nat} (h : Blk w b 42 (stC 0 none none)) : NoSt w (.pointer (some ⟨b, 0, none⟩))
theorem no_there {w : World} {v : Value} (h : NoSt w v) : Calls Tryz.prog 43 #[v] w fun e w' => e = .returned (.bool false) ∧ w = w' := by
  cases h with
  | nil => exact st_there_nil w
  | zero h => exact st_there_zero h
theorem none_check {w : World} {v : Value} (h : NoSt w v) : Calls Tryz.prog 26 #[v] w fun e w' => e = .returned (.int .i64 1) ∧ w = w' := by
  have H := Lib.hid h
  clear h
  go_enter Tryz.func26, Tryz.ntmps26
  go_wp2_with (go_at_call 43; refine (no_there H.out).mono ?_; rintro e w1 ⟨rfl, rfl⟩)
  go_ret
  exact ⟨rfl, rfl⟩
end Go.Proofs.YtpadifphnbdbpaaGreat
namespace Go.Proofs.YtpadifphnbdbpaaGreat
open Go.RowKit Go.Maps Go.Sort Go.Shelf
set_option linter.unusedVariables false
set_option linter.unusedSimpArgs false

theorem slIs_len (n : Nat) (g : MpF) (id : Int) : (slIs n g id).length ≤ n := by
  induction n with
  | zero => simp [slIs]
  | succ n ih =>
    have := slI_len g id n
    rw [slIs_succ, List.length_append]
    omega
theorem mSl_len (n : Nat) (hn : n ≤ 512) (f : MpF) (M : SnM) : ∀ ids : List Int, (mSl n f M ids).length ≤ ids.length * 512
  | [] => by simp [mSl]
  | id :: ids => by
    have h1 := mSl_len n hn f M ids
    have h2 := slIs_len n (gAt f M id) id
    unfold mSl at *
    rw [List.flatMap_cons, List.length_append, List.length_cons]
    omega
theorem mItems_len {n : Nat} (hn : n ≤ 512) (f : MpF) (M : SnM) : (mItems n f M).length ≤ (M.length + 1) * 512 + M.length := by
  have h1 := mSl_len n hn f M (0 :: sIds M)
  unfold mItems
  rw [List.length_append, List.length_map, sIds_len]
  rw [List.length_cons, sIds_len] at h1
  omega
/-- A state's items. -/
def stItems (n : Nat) (E : ExM) (f : MpF) (M : SnM) : List It := xItems E ++ mItems n f M
theorem st_items {w : World} {si xi bx mi bs n : Nat} {E : ExM} {f : MpF} {M : SnM} (h : StIs w si xi bx mi bs n E f M) (hE : E.length ≤ 100000000) (hM : IdsOk M) :
    Calls Tryz.prog 15 #[.pointer (some ⟨si, 0, none⟩)] w (MItPost (stItems n E f M) w) := by
  have H := Lib.hid h
  have HE := Lib.hid hE
  have HM := Lib.hid hM
  have c0 := h.c0
  have c1 := h.c1
  have c2 := h.c2
  clear h hE hM
  go_enter Tryz.func15, Tryz.ntmps15
  go_wp2_with (go_at_call 43; refine (st_there H.out).mono ?_; rintro e w1 ⟨rfl, rfl⟩)
  refine wp_region_qs (fun _ w' => w'.cell? ⟨si, 1, none⟩ = some (.pointer (some ⟨xi, 0, none⟩)) ∧ w'.cell? ⟨si, 2, none⟩ = some (.pointer (some ⟨mi, 0, none⟩))) [(0, some 3), (1, some 3), (2, some 3), (3, some 2), (5, some 3), (6, some 3), (7, some 3), (8, some 2), (4, none), (9, none), (10, none), (11, some 3)] (by kernel_rfl) (by kernel_rfl) (by kernel_rfl) (by kernel_rfl) (by kernel_rfl) (fun _ _ _ _ _ h => h) ⟨c1, c2⟩ ?_
  simp only [List.map_cons, List.map_nil, List.getD_cons_succ, List.getD_cons_zero]
  (repeat (first | (refine qs_now (v := ?_) (by rfl) ?_ ?_; rotate_left 1; (· (intro w' hS; go_simp; (try (simp only [↓IntWalk.iteOmega]; go_simp)); (try simp (disch := omega) only [IntWalk.i64_in]); try with_reducible rfl)); simp only [Act.put, List.setIfInBounds_toArray, List.set_cons_zero, List.set_cons_succ]) | (refine qs_run (v := ?_) (by rfl) ?_ ?_; rotate_left 1; (· (intro j w' hS; go_simp; (try (simp only [↓IntWalk.iteOmega]; go_simp)); (try simp (disch := omega) only [IntWalk.i64_in]); try with_reducible rfl)); simp only [Act.put, List.setIfInBounds_toArray, List.set_cons_zero, List.set_cons_succ]) | (refine qs_mid (v := ?_) (by rfl) ?_ ?_; rotate_left 1; (· (intro j w' hj1 hj2 hS; go_simp; (try (simp only [↓IntWalk.iteOmega]; go_simp)); (try simp (disch := omega) only [IntWalk.i64_in]); try with_reducible rfl)); simp only [Act.put, List.setIfInBounds_toArray, List.set_cons_zero, List.set_cons_succ]) | (refine qs_skip (by rfl) ?_; simp only [Act.put, List.setIfInBounds_toArray, List.set_cons_zero, List.set_cons_succ])))
  refine qs_act ?_
  go_wp2_with (go_at_call 44; refine (xItems_any H.out.drew.idx HE.out).mono ?_; rintro e w2 ⟨v, rfl, ho, hb⟩; have O2 := Lib.hid ho; have L2 := Lib.hid hb; clear ho hb)
  have L2' := Lib.hid (show Below w.heap.size w w2 from below_chain (Below.refl _ _).drew L2.out)
  have H2 := Lib.hid (H.out.below L2'.out)
  refine ⟨⟨H2.out.c1, H2.out.c2⟩, ?_⟩
  refine qs_act ?_
  go_wp2_with (go_at_call 45; refine (mItems_any H2.out.maps HM.out).mono ?_; rintro e w3 ⟨v3, rfl, ho, hb⟩; have O3 := Lib.hid ho; have L3 := Lib.hid hb; clear ho hb)
  have H3 := Lib.hid (H2.out.below L3.out)
  refine ⟨⟨H3.out.c1, H3.out.c2⟩, ?_⟩
  refine qs_act ?_
  have O2' := Lib.hid (own_belowR O2.out L3.out)
  have hl := Lib.hid (show (xItems E).length + (mItems n f M).length ≤ 1000000000 by
    have h1 := mItems_len H.out.maps.high f M
    have h2 := xItems_len E
    have h3 := HE.out
    have h4 := HM.out.1
    omega)
  go_wp2_with ((with_reducible show wpList _ _ _ (_ :: _) _ _); refine wpl_app_its rfl (.tmp 10) (.tmp 15) rfl w.heap.size v (xItems E) rfl O2'.out v3 (mItems n f M) rfl (Src.of_own O3.out) hl.out (Nat.le_trans L2'.out.size L3.out.size) ?_; intro v4 w4 ho hg; have O4 := Lib.hid ho; have G4 := Lib.hid hg; clear ho hg)
  have L4 := Lib.hid (show Below w.heap.size w w4 from (below_chain L2'.out L3.out).grown G4.out (Nat.le_trans L2'.out.size L3.out.size) (fun k hk => (own_at O2'.out k hk).1))
  have H4 := Lib.hid (H.out.below L4.out)
  refine ⟨⟨H4.out.c1, H4.out.c2⟩, ?_⟩
  (repeat (first | (refine qs_now (v := ?_) (by rfl) ?_ ?_; rotate_left 1; (· (intro w' hS; go_simp; (try (simp only [↓IntWalk.iteOmega]; go_simp)); (try simp (disch := omega) only [IntWalk.i64_in]); try with_reducible rfl)); simp only [Act.put, List.setIfInBounds_toArray, List.set_cons_zero, List.set_cons_succ]) | (refine qs_run (v := ?_) (by rfl) ?_ ?_; rotate_left 1; (· (intro j w' hS; go_simp; (try (simp only [↓IntWalk.iteOmega]; go_simp)); (try simp (disch := omega) only [IntWalk.i64_in]); try with_reducible rfl)); simp only [Act.put, List.setIfInBounds_toArray, List.set_cons_zero, List.set_cons_succ]) | (refine qs_mid (v := ?_) (by rfl) ?_ ?_; rotate_left 1; (· (intro j w' hj1 hj2 hS; go_simp; (try (simp only [↓IntWalk.iteOmega]; go_simp)); (try simp (disch := omega) only [IntWalk.i64_in]); try with_reducible rfl)); simp only [Act.put, List.setIfInBounds_toArray, List.set_cons_zero, List.set_cons_succ]) | (refine qs_skip (by rfl) ?_; simp only [Act.put, List.setIfInBounds_toArray, List.set_cons_zero, List.set_cons_succ])))
  refine qs_nil ?_
  go_wp2_with fail
  go_ret
  exact ⟨_, rfl, O4.out, L4.out⟩
theorem countC_nil : countC [] = [] := by simp [countC, cntL, sumF, rowCn, nz]
set_option maxRecDepth 100000 in
set_option maxHeartbeats 1000000 in
theorem makes_nil {w : World} (n : Int) (A : Option Addr) (c : Nat) : Calls Tryz.prog 55 #[.int .i64 n, .slice A 0 c] w fun e w' => e = .returned (.bool true) ∧ Below w.heap.size w w' := by
  have hmm := @run_makeMap Tryz.prog
  go_enter Tryz.func55, Tryz.ntmps55
  go_wp2_with fail
  obtain ⟨w1, hw1⟩ : ∃ w1, w1 = w.alloc (Obj.map #[] 0) := ⟨_, rfl⟩
  have L1 := Lib.hid (show Below w.heap.size w w1 by rw [hw1]; exact (Below.refl _ _).alloc (Nat.le_refl _) _)
  rw [← hw1]
  clear hw1
  go_loopg [6, 25] 0 (fun k sv iv wr => sv = .int .i64 0 ∧ iv = .int .i64 0 ∧ Below w.heap.size w wr)
  case atStart => exact ⟨rfl, rfl, L1.out⟩
  case round =>
    obtain ⟨rfl, rfl, hb⟩ := hrel
    have L2 := Lib.hid hb
    clear hb L1
    go_wp2_with fail
    obtain ⟨w2, hw2⟩ : ∃ w2, w2 = wr.alloc (Obj.map #[] 0) := ⟨_, rfl⟩
    have L3 := Lib.hid (show Below w.heap.size w w2 by rw [hw2]; exact L2.out.alloc L2.out.size _)
    rw [← hw2]
    clear hw2
    have HS := Lib.hid (show ∀ W : World, Src W 73 (.slice A 0 c) 0 (itsC []) from fun W => ⟨A, c, rfl, rfl, fun h => absurd h (by omega)⟩)
    go_wp2_with (go_at_call 103; refine (count_any (HS.out w2) rfl (by omega)).mono ?_; rintro e w3 ⟨v, rfl, ho, hb⟩; rw [countC_nil] at ho; have O := Lib.hid (show w3.ownsRow w2.heap.size 203 33 v 0 [] from ho); have L4 := Lib.hid (below_chain L3.out hb); clear ho hb; obtain ⟨A3, c3, rfl, -⟩ := Src.of_own O.out)
    go_loopg [60] 0 (fun k iv wr => iv = .int .i64 0 ∧ Below w.heap.size w wr)
    case atStart => exact ⟨rfl, L4.out⟩
    case round =>
      obtain ⟨rfl, hb⟩ := hrel
      have L5 := Lib.hid hb
      clear hb L4
      go_wp2_with fail
      go_loopg [72] 0 (fun k iv wr => iv = .int .i64 0 ∧ Below w.heap.size w wr)
      case atStart => exact ⟨rfl, L5.out⟩
      case round =>
        obtain ⟨rfl, hb⟩ := hrel
        have L6 := Lib.hid hb
        clear hb L5
        go_wp2_with fail
        go_ret
        exact ⟨rfl, L6.out⟩
end Go.Proofs.YtpadifphnbdbpaaGreat
