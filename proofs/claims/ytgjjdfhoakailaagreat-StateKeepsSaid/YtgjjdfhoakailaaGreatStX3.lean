/-
  index: Want: walked.
-/
import Derived.Test.YtgjjdfhoakailaaGreatStX2
namespace Go.Proofs.YtgjjdfhoakailaaGreat
open Go.RowKit Go.Maps
set_option linter.unusedVariables false
set_option linter.unusedSimpArgs false

def wantIn (p : Pl) (n : Int) : Prop := -p.ref ≤ n ∧ n ≤ 2147483647 - p.ref
instance (p : Pl) (n : Int) : Decidable (wantIn p n) := inferInstanceAs (Decidable (_ ∧ _))
def plAdd (p : Pl) (n : Int) : Pl := ⟨p.pos, p.sec, p.uni, p.ref + n⟩
def W1Post (B c7 : Nat) (p : Pl) (n : Int) (w : World) (e : Ending) (w' : World) : Prop := Tch [B, c7] w w' ∧
  ((wantIn p n ∧ e = .returned (.bool true) ∧ Blk w' B 52 (plC (plAdd p n)).toArray ∧ Blk w' c7 4 #[.bool (p.ref + n == 0)]) ∨ (¬ wantIn p n ∧ e = .returned (.bool false) ∧ Below w.heap.size w w'))
set_option maxRecDepth 100000 in
set_option maxHeartbeats 1000000 in
theorem want1_any {w : World} {B c5 c7 : Nat} {p : Pl} {n : Int} {v7 : Bool} (hB : Blk w B 52 (plC p).toArray) (h5 : w.cell? ⟨c5, 0, none⟩ = some (.int .i64 n)) (h7 : Blk w c7 4 #[.bool v7]) (hp : 0 ≤ p.ref ∧ p.ref ≤ 2147483647) (hn : -9223372036854775808 ≤ n ∧ n ≤ 9223372036854775807) :
    Calls Tryz.prog 70 #[.pointer (some ⟨B, 0, none⟩), .pointer (some ⟨c5, 0, none⟩), .pointer (some ⟨c7, 0, none⟩)] w (W1Post B c7 p n w) := by
  have KB := Lib.hid hB
  have K7 := Lib.hid h7
  have c3 := hB.cell (i := 3) (v := .int .i64 p.ref) rfl
  have f3 := hB.free 3
  obtain ⟨hp1, hp2⟩ := hp
  obtain ⟨hn1, hn2⟩ := hn
  clear hB h7
  obtain ⟨bb, hbb⟩ : ∃ b, b = decide (-p.ref ≤ n ∧ n ≤ 2147483647 - p.ref) := ⟨_, rfl⟩
  have CF := Lib.hid (fun W => from_any n (-p.ref) (2147483647 - p.ref) W)
  rw [← hbb] at CF
  have HB := Lib.hid hbb
  clear hbb
  obtain ⟨rf, hrf⟩ : ∃ r, r = p.ref := ⟨_, rfl⟩
  rw [← hrf] at c3 hp1 hp2 CF
  have HRf := Lib.hid hrf
  clear hrf
  go_enter Tryz.func70, Tryz.ntmps70
  go_wp2_with fail
  refine wp_region_qs (fun _ w' => w'.cell? ⟨c5, 0, none⟩ = some (.int .i64 n) ∧ w'.cell? ⟨B, 3, none⟩ = some (.int .i64 rf)) [(0, some 0), (1, some 1), (2, some 1), (3, some 1), (4, some 1), (5, some 0), (6, some 1), (7, some 1), (8, some 1), (9, some 1), (10, some 0), (11, none), (12, some 1)] (by kernel_rfl) (by kernel_rfl) (by kernel_rfl) (by kernel_rfl) (by kernel_rfl) (fun _ _ _ _ _ h => h) ⟨h5, c3⟩ ?_
  simp only [List.map_cons, List.map_nil, List.getD_cons_succ, List.getD_cons_zero]
  (repeat (first | (refine qs_now (v := ?_) (by rfl) ?_ ?_; rotate_left 1; (· (intro w' hS; go_simp; (try (simp only [↓IntWalk.iteOmega]; go_simp)); (try simp (disch := omega) only [IntWalk.i64_in]); try with_reducible rfl)); simp only [Act.put, List.setIfInBounds_toArray, List.set_cons_zero, List.set_cons_succ]) | (refine qs_run (v := ?_) (by rfl) ?_ ?_; rotate_left 1; (· (intro j w' hS; go_simp; (try (simp only [↓IntWalk.iteOmega]; go_simp)); (try simp (disch := omega) only [IntWalk.i64_in]); try with_reducible rfl)); simp only [Act.put, List.setIfInBounds_toArray, List.set_cons_zero, List.set_cons_succ]) | (refine qs_skip (by rfl) ?_; simp only [Act.put, List.setIfInBounds_toArray, List.set_cons_zero, List.set_cons_succ])))
  refine qs_act ?_
  go_wp2_with fail
  refine (CF.out _).mono ?_
  rintro e w2 ⟨rfl, rfl⟩
  go_wp2
  refine ⟨⟨h5, c3⟩, ?_⟩
  (repeat (first | (refine qs_now (v := ?_) (by rfl) ?_ ?_; rotate_left 1; (· (intro w' hS; go_simp; (try (simp only [↓IntWalk.iteOmega]; go_simp)); (try simp (disch := omega) only [IntWalk.i64_in]); try with_reducible rfl)); simp only [Act.put, List.setIfInBounds_toArray, List.set_cons_zero, List.set_cons_succ]) | (refine qs_run (v := ?_) (by rfl) ?_ ?_; rotate_left 1; (· (intro j w' hS; go_simp; (try (simp only [↓IntWalk.iteOmega]; go_simp)); (try simp (disch := omega) only [IntWalk.i64_in]); try with_reducible rfl)); simp only [Act.put, List.setIfInBounds_toArray, List.set_cons_zero, List.set_cons_succ]) | (refine qs_skip (by rfl) ?_; simp only [Act.put, List.setIfInBounds_toArray, List.set_cons_zero, List.set_cons_succ])))
  refine qs_nil ?_
  cases bb
  · go_wp2_with fail
    go_ret
    refine ⟨Tch.below (Below.refl _ _).drew, .inr ⟨?_, rfl, (Below.refl _ _).drew⟩⟩
    unfold wantIn
    exact of_decide_eq_false HB.out.symm
  · have hin : wantIn p n := of_decide_eq_true HB.out.symm
    have HIn := Lib.hid hin
    have hb1 : -rf ≤ n ∧ n ≤ 2147483647 - rf := by rw [HRf.out]; exact hin
    obtain ⟨hb1, hb2⟩ := hb1
    clear hin
    go_wp2_with fail
    refine wp_region_qs (fun j0 w' => j0 ≤ 0 → w'.cell? ⟨c5, 0, none⟩ = some (.int .i64 n) ∧ w'.cell? ⟨B, 3, none⟩ = some (.int .i64 rf)) [(0, some 0), (1, some 0), (2, some 0), (3, some 0), (4, some 0), (5, some 0), (6, some 1), (7, some 0), (8, none)] (by kernel_rfl) (by kernel_rfl) (by kernel_rfl) (by kernel_rfl) (by kernel_rfl) (fun _ _ _ _ _ h => h) (fun _ => ⟨h5, c3⟩) ?_
    simp only [List.map_cons, List.map_nil, List.getD_cons_succ, List.getD_cons_zero]
    (repeat (first | ((first | (refine qs_mid (v := .int .i64 n) (by rfl) ?_ ?_; rotate_left 1; (· (intro j w' h1 h2 h; have h3 := (h h2).1; clear h; go_simp; done))) | (refine qs_mid (v := .int .i64 rf) (by rfl) ?_ ?_; rotate_left 1; (· (intro j w' h1 h2 h; have h3 := (h h2).2; clear h; go_simp; done)))); simp only [Act.put, List.setIfInBounds_toArray, List.set_cons_zero, List.set_cons_succ]) | (refine qs_now (v := ?_) (by rfl) ?_ ?_; rotate_left 1; (· (intro w' hS; go_simp; (try (simp only [↓IntWalk.iteOmega]; go_simp)); (try simp (disch := omega) only [IntWalk.i64_in]); try with_reducible rfl)); simp only [Act.put, List.setIfInBounds_toArray, List.set_cons_zero, List.set_cons_succ]) | (refine qs_run (v := ?_) (by rfl) ?_ ?_; rotate_left 1; (· (intro j w' hS; go_simp; (try (simp only [↓IntWalk.iteOmega]; go_simp)); (try simp (disch := omega) only [IntWalk.i64_in]); try with_reducible rfl)); simp only [Act.put, List.setIfInBounds_toArray, List.set_cons_zero, List.set_cons_succ]) | (refine qs_mid (v := ?_) (by rfl) ?_ ?_; rotate_left 1; (· (intro j w' hj1 hj2 hS; go_simp; (try (simp only [↓IntWalk.iteOmega]; go_simp)); (try simp (disch := omega) only [IntWalk.i64_in]); try with_reducible rfl)); simp only [Act.put, List.setIfInBounds_toArray, List.set_cons_zero, List.set_cons_succ]) | (refine qs_skip (by rfl) ?_; simp only [Act.put, List.setIfInBounds_toArray, List.set_cons_zero, List.set_cons_succ])))
    refine qs_act ?_
    go_wp2_with fail
    refine ⟨fun h => absurd h (by omega), ?_⟩
    refine qs_nil ?_
    obtain ⟨w2, hw2⟩ : ∃ w2, w2 = (w.setCell ⟨B, 3, none⟩ (.int .i64 (rf + n))).drew.drew := ⟨_, rfl⟩
    have hB2 : Blk w2 B 52 (plC (plAdd p n)).toArray := by
      have := (KB.out.put 3 (.int .i64 (rf + n))).drew.drew
      rw [← hw2] at this
      have e : (plC p).toArray.setIfInBounds 3 (.int .i64 (rf + n)) = (plC (plAdd p n)).toArray := by rw [HRf.out]; rfl
      rw [e] at this
      exact this
    have hne : c7 ≠ B := blk_ne_ty K7.out KB.out (by decide)
    have h72 : Blk w2 c7 4 #[.bool v7] := by rw [hw2]; exact (K7.out.else_ (p := ⟨B, 3, none⟩) hne _).drew.drew
    have T2 := Lib.hid (show Tch [B, c7] w w2 from Tch.grown (row := some B) (by have := grown_put w ⟨B, 3, none⟩ (.int .i64 (rf + n)); rw [hw2]; exact ⟨this.os, this.tape, this.output, this.size, this.block⟩) (fun k hk => by injection hk with hk; subst hk; exact .inl (by simp)))
    have KB2 := Lib.hid hB2
    have K72 := Lib.hid h72
    have HNe := Lib.hid hne
    rw [← hw2]
    have c32 := hB2.cell (i := 3) (v := .int .i64 (rf + n)) (by rw [HRf.out]; rfl)
    have c72 := h72.cell (i := 0) (v := .bool v7) rfl
    have f72 := h72.free 0
    clear hw2 hB2 h72 c3 f3 h5 hne
    obtain ⟨z, hz⟩ : ∃ z, z = rf + n := ⟨_, rfl⟩
    rw [← hz] at c32
    have HZ := Lib.hid hz
    clear hz
    obtain ⟨bz, hbz⟩ : ∃ b, b = (z == 0) := ⟨_, rfl⟩
    have HBz := Lib.hid hbz
    have hbz' : (z == 0) = bz := hbz.symm
    clear hbz
    go_wp2_with fail
    go_ret
    have hT : w2.grownBy (w2.setCell ⟨c7, 0, none⟩ (.bool bz)) (some c7) := grown_put w2 ⟨c7, 0, none⟩ (.bool bz)
    refine ⟨T2.out.trans (Tch.grown hT (fun k hk => by injection hk with hk; subst hk; exact .inl (by simp))), .inl ⟨HIn.out, rfl, KB2.out.grown hT (by have := HNe.out; simp; omega), ?_⟩⟩
    have := K72.out.put 0 (.bool bz)
    rw [HBz.out, HZ.out, HRf.out] at this
    rw [HBz.out, HZ.out, HRf.out]
    exact this
end Go.Proofs.YtgjjdfhoakailaaGreat
