/-
  what this claim needs of: StD (written by cut.py).
-/
import Derived.Test.YtgjjdfhoakailaaGreatOStT5
import Derived.Test.YtgjjdfhoakailaaGreatOStT3
import Derived.Test.YtgjjdfhoakailaaGreatOStP6
import Derived.Test.YtgjjdfhoakailaaGreatOStN3
import Derived.Test.YtgjjdfhoakailaaGreatOStArg
import Derived.Test.YtgjjdfhoakailaaGreatOStC
import Derived.Test.YtgjjdfhoakailaaGreatOStQ1
namespace Go.Proofs.YtgjjdfhoakailaaGreat
open Go.RowKit Go.Maps Go.Sort Go.Shelf
set_option linter.unusedVariables false
set_option linter.unusedSimpArgs false

theorem check_any {w : World} {si xi bx mi bs n : Nat} {E : ExM} {f : MpF} {M : SnM} (h : StIs w si xi bx mi bs n E f M) (hE : E.length ≤ 100000000) (hM : IdsOk M) (hb : ∀ i ∈ stItems n E f M, ItB i) (hl : (stItems n E f M).length ≤ 1000000) :
    Calls Tryz.prog 21 #[.pointer (some ⟨si, 0, none⟩)] w fun e w' => e = .returned (.int .i64 (if makesB (n : Int) (stItems n E f M) = true then 0 else 10)) ∧ Below w.heap.size w w' := by
  have H := Lib.hid h
  have HE := Lib.hid hE
  have HM := Lib.hid hM
  have HB := Lib.hid hb
  have HL := Lib.hid hl
  obtain ⟨mk, hmk⟩ : ∃ b, b = makesB (n : Int) (stItems n E f M) := ⟨_, rfl⟩
  have HMk := Lib.hid hmk
  have c0 := h.c0
  clear h hE hM hb hl
  rw [← hmk]
  clear hmk
  go_enter Tryz.func21, Tryz.ntmps21
  go_wp2_with (go_at_call 40; refine (st_there H.out).mono ?_; rintro e w1 ⟨rfl, rfl⟩)
  refine wp_region_qs (fun _ w' => w'.cell? ⟨si, 0, none⟩ = some (.int .i64 (n : Int))) [(0, some 2), (1, some 2), (2, some 2), (3, some 1), (4, some 1), (5, none), (6, none), (7, some 2), (8, some 2)] (by kernel_rfl) (by kernel_rfl) (by kernel_rfl) (by kernel_rfl) (by kernel_rfl) (fun _ _ _ _ _ h => h) c0 ?_
  simp only [List.map_cons, List.map_nil, List.getD_cons_succ, List.getD_cons_zero]
  (repeat (first | (refine qs_now (v := ?_) (by rfl) ?_ ?_; rotate_left 1; (· (intro w' hS; go_simp; (try (simp only [↓IntWalk.iteOmega]; go_simp)); (try simp (disch := omega) only [IntWalk.i64_in]); try with_reducible rfl)); simp only [Act.put, List.setIfInBounds_toArray, List.set_cons_zero, List.set_cons_succ]) | (refine qs_run (v := ?_) (by rfl) ?_ ?_; rotate_left 1; (· (intro j w' hS; go_simp; (try (simp only [↓IntWalk.iteOmega]; go_simp)); (try simp (disch := omega) only [IntWalk.i64_in]); try with_reducible rfl)); simp only [Act.put, List.setIfInBounds_toArray, List.set_cons_zero, List.set_cons_succ]) | (refine qs_mid (v := ?_) (by rfl) ?_ ?_; rotate_left 1; (· (intro j w' hj1 hj2 hS; go_simp; (try (simp only [↓IntWalk.iteOmega]; go_simp)); (try simp (disch := omega) only [IntWalk.i64_in]); try with_reducible rfl)); simp only [Act.put, List.setIfInBounds_toArray, List.set_cons_zero, List.set_cons_succ]) | (refine qs_skip (by rfl) ?_; simp only [Act.put, List.setIfInBounds_toArray, List.set_cons_zero, List.set_cons_succ])))
  refine qs_act ?_
  go_wp2_with (go_at_call 19; refine (st_items H.out.drew HE.out HM.out).mono ?_; rintro e w2 ⟨v, rfl, ho, hb⟩; obtain ⟨A2, c2, rfl, hs⟩ := Src.of_own ho; have S2 := Lib.hid (show Src w2 73 (.slice A2 (stItems n E f M).length c2) (stItems n E f M).length (itsC (stItems n E f M)) from ⟨A2, c2, rfl, hs⟩); have L2 := Lib.hid (below_chain (Below.refl _ _).drew hb); clear ho hb hs)
  have H2 := Lib.hid (H.out.below L2.out)
  refine ⟨H2.out.c0, ?_⟩
  (repeat (first | (refine qs_now (v := ?_) (by rfl) ?_ ?_; rotate_left 1; (· (intro w' hS; go_simp; (try (simp only [↓IntWalk.iteOmega]; go_simp)); (try simp (disch := omega) only [IntWalk.i64_in]); try with_reducible rfl)); simp only [Act.put, List.setIfInBounds_toArray, List.set_cons_zero, List.set_cons_succ]) | (refine qs_run (v := ?_) (by rfl) ?_ ?_; rotate_left 1; (· (intro j w' hS; go_simp; (try (simp only [↓IntWalk.iteOmega]; go_simp)); (try simp (disch := omega) only [IntWalk.i64_in]); try with_reducible rfl)); simp only [Act.put, List.setIfInBounds_toArray, List.set_cons_zero, List.set_cons_succ]) | (refine qs_mid (v := ?_) (by rfl) ?_ ?_; rotate_left 1; (· (intro j w' hj1 hj2 hS; go_simp; (try (simp only [↓IntWalk.iteOmega]; go_simp)); (try simp (disch := omega) only [IntWalk.i64_in]); try with_reducible rfl)); simp only [Act.put, List.setIfInBounds_toArray, List.set_cons_zero, List.set_cons_succ]) | (refine qs_skip (by rfl) ?_; simp only [Act.put, List.setIfInBounds_toArray, List.set_cons_zero, List.set_cons_succ])))
  refine qs_act ?_
  go_wp2_with (go_at_call 64; refine (makes_any (n : Int) S2.out rfl HB.out HL.out).mono ?_; rintro e w3 ⟨rfl, hb⟩; rewrite [← HMk.out]; have L3 := Lib.hid hb; clear hb)
  have H3 := Lib.hid (H2.out.below L3.out)
  refine ⟨H3.out.c0, ?_⟩
  cases mk
  all_goals
    (repeat (first | (refine qs_now (v := ?_) (by rfl) ?_ ?_; rotate_left 1; (· (intro w' hS; go_simp; (try (simp only [↓IntWalk.iteOmega]; go_simp)); (try simp (disch := omega) only [IntWalk.i64_in]); try with_reducible rfl)); simp only [Act.put, List.setIfInBounds_toArray, List.set_cons_zero, List.set_cons_succ]) | (refine qs_run (v := ?_) (by rfl) ?_ ?_; rotate_left 1; (· (intro j w' hS; go_simp; (try (simp only [↓IntWalk.iteOmega]; go_simp)); (try simp (disch := omega) only [IntWalk.i64_in]); try with_reducible rfl)); simp only [Act.put, List.setIfInBounds_toArray, List.set_cons_zero, List.set_cons_succ]) | (refine qs_mid (v := ?_) (by rfl) ?_ ?_; rotate_left 1; (· (intro j w' hj1 hj2 hS; go_simp; (try (simp only [↓IntWalk.iteOmega]; go_simp)); (try simp (disch := omega) only [IntWalk.i64_in]); try with_reducible rfl)); simp only [Act.put, List.setIfInBounds_toArray, List.set_cons_zero, List.set_cons_succ]) | (refine qs_skip (by rfl) ?_; simp only [Act.put, List.setIfInBounds_toArray, List.set_cons_zero, List.set_cons_succ])))
    refine qs_nil ?_
    go_wp2_with fail
    go_ret
    exact ⟨rfl, below_chain L2.out L3.out⟩
end Go.Proofs.YtgjjdfhoakailaaGreat
namespace Go.Proofs.YtgjjdfhoakailaaGreat
open Go.RowKit Go.Maps Go.Sort Go.Shelf
set_option linter.unusedVariables false
set_option linter.unusedSimpArgs false

end Go.Proofs.YtgjjdfhoakailaaGreat
