/-
  peatbankkit.SameFates, SameStep, walked.
-/
import Derived.Test.YtfehgpjnlkgekaaGreatDoorLnStep
namespace Go.Proofs.YtfehgpjnlkgekaaGreatDoor
open Go.RowKit
set_option linter.unusedVariables false
set_option linter.unusedSimpArgs false

theorem fate_neq (x y : Int) (w : World) : (binOp BinOp.neq 50 (.agg #[.int .i64 x]) (.agg #[.int .i64 y])).run Tryz.prog w = .ok (.bool (x != y)) w := by
  have hf : (Tryz.prog.fieldsOf 50).toList = [{ name := "Sector", type := 3, offset := 0, embedded := false, tag := "", pkgPath := "", byteOffset := 0 }] := by kernel_rfl
  have hp : ∀ z : Int, (part 3 #[.int .i64 z] 0).run Tryz.prog w = .ok (.int .i64 z) w := fun z => by simp [part, isAgg, run_underlying Tryz.underlying3]
  have e : (Op.equalIn 9999 3 (.int .i64 x) (.int .i64 y)).run Tryz.prog w = .ok (x == y) w := run_equalIn_int w 9998 3 .i64 .i64 x y Tryz.underlying3
  rw [run_neq_struct, run_equalIn_agg w 9999 _ _ _ (by kernel_rfl) (by kernel_rfl), hf]
  simp only [Op.eqFields, Sem.run_bind, hp, Result.andThen_ok, e, if_pos (show ("Sector" : String) ≠ "_" by decide)]
  cases h : x == y <;> simp [bne, h]
set_option maxHeartbeats 800000 in
theorem same_fates (xs ys : List Int) (A B : Option Addr) (n m c d : Nat) (w : World) (ha : RdI .i64 w A n xs) (hb : RdI .i64 w B m ys) (hn : n ≤ 4611686018427387904) (hm : m ≤ 4611686018427387904) :
    Calls Tryz.prog 24 #[.slice A n c, .slice B m d] w fun e w' => e = .returned (.bool (decide (xs = ys))) ∧ Below w.heap.size w w' := by
  have HA := Lib.hid ha
  have HB := Lib.hid hb
  have hla := Lib.hid ha.1
  have hlb := Lib.hid hb.1
  clear ha hb
  by_cases hnm : n = m
  · subst hnm
    have d0 : ((n : Int) != n) = false := by simp
    have fq := fate_neq
    go_enter Tryz.func24, Tryz.ntmps24
    go_wp2
    go_loopg [5] n (Y1 xs ys n w)
    case atStart => exact ⟨0, by omega, rfl, rfl, Below.refl _ _⟩
    case round =>
      obtain ⟨k, hk, rfl, ht, hbel⟩ := hrel
      have HT := Lib.hid ht
      have HBel := Lib.hid hbel
      clear ht hbel
      by_cases hlt : k < n
      · have hltI : (k : Int) < n := by omega
        obtain ⟨b, off, rfl, _, hx⟩ := HA.out.cell HBel.out hlt
        obtain ⟨b', off', rfl, _, hy⟩ := HB.out.cell HBel.out hlt
        have HX := Lib.hid (take_snoc xs k (by have := hla.out; omega))
        have HY := Lib.hid (take_snoc ys k (by have := hlb.out; omega))
        have HG : Hid (xs.getD k 0 ≠ ys.getD k 0 → decide (xs = ys) = false) := fun h => by simp; rintro rfl; exact h rfl
        generalize xs.getD k 0 = x at *
        generalize ys.getD k 0 = y at *
        by_cases he : x = y
        · have d1 : (x != y) = false := by simpa using he
          have HE := Lib.hid he
          clear he
          go_wp2
          refine wp_region_qs (fun _ w' => w'.cell? ⟨b, off + k, none⟩ = some (.int .i64 x) ∧ w'.cell? ⟨b', off' + k, none⟩ = some (.int .i64 y)) [(0, some 0), (1, some 0), (2, some 0), (3, some 0), (4, some 0), (5, some 0), (6, some 0), (7, some 0), (8, some 0)] (by kernel_rfl) (by kernel_rfl) (by kernel_rfl) (by kernel_rfl) (by kernel_rfl) (fun _ _ _ _ _ h => h) ⟨hx, hy⟩ ?_
          simp only [List.map_cons, List.map_nil, List.getD_cons_succ, List.getD_cons_zero]
          (repeat (first | (refine qs_now (v := ?_) (by rfl) ?_ ?_; rotate_left 1; (· (intro w' hS; go_simp; (try (simp only [↓IntWalk.iteOmega]; go_simp)); (try simp (disch := omega) only [IntWalk.i64_in]); try with_reducible rfl)); simp only [Act.put, List.setIfInBounds_toArray, List.set_cons_zero, List.set_cons_succ]) | (refine qs_run (v := ?_) (by rfl) ?_ ?_; rotate_left 1; (· (intro j w' hS; go_simp; (try (simp only [↓IntWalk.iteOmega]; go_simp)); (try simp (disch := omega) only [IntWalk.i64_in]); try with_reducible rfl)); simp only [Act.put, List.setIfInBounds_toArray, List.set_cons_zero, List.set_cons_succ]) | (refine qs_skip (by rfl) ?_; simp only [Act.put, List.setIfInBounds_toArray, List.set_cons_zero, List.set_cons_succ])))
          refine qs_nil ?_
          go_wp2
          go_roundg (gk - 1)
          case measure => omega
          case rel => exact ⟨k + 1, by omega, by go_num, by rw [HX.out, HY.out, HT.out, HE.out], HBel.out.drew⟩
        · have d1 : (x != y) = true := by simpa using he
          have HF := Lib.hid (HG.out he)
          clear he HG
          go_wp2
          refine wp_region_qs (fun _ w' => w'.cell? ⟨b, off + k, none⟩ = some (.int .i64 x) ∧ w'.cell? ⟨b', off' + k, none⟩ = some (.int .i64 y)) [(0, some 0), (1, some 0), (2, some 0), (3, some 0), (4, some 0), (5, some 0), (6, some 0), (7, some 0), (8, some 0)] (by kernel_rfl) (by kernel_rfl) (by kernel_rfl) (by kernel_rfl) (by kernel_rfl) (fun _ _ _ _ _ h => h) ⟨hx, hy⟩ ?_
          simp only [List.map_cons, List.map_nil, List.getD_cons_succ, List.getD_cons_zero]
          (repeat (first | (refine qs_now (v := ?_) (by rfl) ?_ ?_; rotate_left 1; (· (intro w' hS; go_simp; (try (simp only [↓IntWalk.iteOmega]; go_simp)); (try simp (disch := omega) only [IntWalk.i64_in]); try with_reducible rfl)); simp only [Act.put, List.setIfInBounds_toArray, List.set_cons_zero, List.set_cons_succ]) | (refine qs_run (v := ?_) (by rfl) ?_ ?_; rotate_left 1; (· (intro j w' hS; go_simp; (try (simp only [↓IntWalk.iteOmega]; go_simp)); (try simp (disch := omega) only [IntWalk.i64_in]); try with_reducible rfl)); simp only [Act.put, List.setIfInBounds_toArray, List.set_cons_zero, List.set_cons_succ]) | (refine qs_skip (by rfl) ?_; simp only [Act.put, List.setIfInBounds_toArray, List.set_cons_zero, List.set_cons_succ])))
          refine qs_nil ?_
          go_wp2
          go_ret
          exact ⟨by rw [HF.out]; rfl, HBel.out.drew⟩
      · obtain rfl : k = n := by omega
        have HE := Lib.hid (show decide (xs = ys) = true by
          have := HT.out
          rw [List.take_of_length_le (by have := hla.out; omega), List.take_of_length_le (by have := hlb.out; omega)] at this
          simpa using this)
        go_wp2
        go_ret
        exact ⟨by rw [HE.out]; rfl, HBel.out⟩
  · have d0 : ((n : Int) != m) = true := by simp; omega
    have HF := Lib.hid (show decide (xs = ys) = false by
      simp; rintro rfl
      have h1 := hla.out
      have h2 := hlb.out
      omega)
    go_enter Tryz.func24, Tryz.ntmps24
    go_wp2
    go_ret
    exact ⟨by rw [HF.out]; rfl, Below.refl _ _⟩
/-- A step in memory. -/
def StRd (w : World) (v : Value) (y : StepV) : Prop := ∃ A c A' c', v = .agg (stepVs y (.slice A y.bytes.length c) (.slice A' y.fates.length c')) ∧ RdI .u8 w A y.bytes.length y.bytes ∧ RdI .i64 w A' y.fates.length y.fates
theorem StRd.below {w w' : World} {v : Value} {y : StepV} (h : StRd w v y) (hb : Below w.heap.size w w') : StRd w' v y := by
  obtain ⟨A, c, A', c', e, h1, h2⟩ := h
  exact ⟨A, c, A', c', e, h1.below hb, h2.below hb⟩
def eqS (x y : StepV) : Bool := decide (x.kind = y.kind) && (decide (x.pos = y.pos) && (decide (x.n = y.n) && (decide (x.snap = y.snap) && (decide (x.bytes = y.bytes) && decide (x.fates = y.fates)))))
theorem eqS_iff (x y : StepV) : eqS x y = true ↔ x = y := by
  unfold eqS
  simp only [Bool.and_eq_true, decide_eq_true_eq]
  constructor
  · rintro ⟨h1, h2, h3, h4, h5, h6⟩
    cases x; cases y
    simp_all
  · rintro rfl
    simp
set_option maxHeartbeats 1600000 in
theorem same_step (x y : StepV) (vx vy : Value) (w : World) (hx : StRd w vx x) (hy : StRd w vy y) (bx : x.bytes.length ≤ 1000000000) (b2 : x.fates.length ≤ 1000000000) (b3 : y.bytes.length ≤ 1000000000) (b4 : y.fates.length ≤ 1000000000) :
    Calls Tryz.prog 8 #[vx, vy] w fun e w' => e = .returned (.bool (eqS x y)) ∧ Below w.heap.size w w' := by
  obtain ⟨A, c, A', c', rfl, ha, hb⟩ := hx
  obtain ⟨B, d, B', d', rfl, hc, hd⟩ := hy
  have HA := Lib.hid ha
  have HB := Lib.hid hb
  have HC := Lib.hid hc
  have HD := Lib.hid hd
  clear ha hb hc hd
  unfold stepVs
  by_cases h1 : x.kind = y.kind
  · have e1 : (x.kind == y.kind) = true := by simpa using h1
    by_cases h2 : x.pos = y.pos
    · have e2 : (x.pos == y.pos) = true := by simpa using h2
      by_cases h3 : x.n = y.n
      · have e3 : (x.n == y.n) = true := by simpa using h3
        by_cases h4 : x.snap = y.snap
        · have e4 : (x.snap == y.snap) = true := by simpa using h4
          have HE := Lib.hid (show eqS x y = (decide (x.bytes = y.bytes) && decide (x.fates = y.fates)) by unfold eqS; rw [decide_eq_true h1, decide_eq_true h2, decide_eq_true h3, decide_eq_true h4]; simp)
          clear h1 h2 h3 h4
          go_enter Tryz.func8, Tryz.ntmps8
          go_wp2_with fail
          obtain ⟨wa, hwa⟩ : ∃ wa, wa = (w.alloc (Obj.cells (stepVs x (.slice A x.bytes.length c) (.slice A' x.fates.length c')) 27)).alloc (Obj.cells (stepVs y (.slice B y.bytes.length d) (.slice B' y.fates.length d')) 27) := ⟨_, rfl⟩
          have K1 := Lib.hid (show Blk wa w.heap.size 27 (stepVs x (.slice A x.bytes.length c) (.slice A' x.fates.length c')) by rw [hwa]; exact (Blk.made _ _ _).alloc _)
          have K2 := Lib.hid (show Blk wa (w.heap.size + 1) 27 (stepVs y (.slice B y.bytes.length d) (.slice B' y.fates.length d')) by rw [hwa]; exact Blk.made_at _ _ _ (by simp))
          have La := Lib.hid (show Below w.heap.size w wa by rw [hwa]; exact (((Below.refl _ _).alloc (Nat.le_refl _) _).alloc (by simp) _))
          unfold stepVs at hwa K1 K2
          rw [← hwa]
          clear hwa
          refine (same_bytes x.bytes y.bytes A B x.bytes.length y.bytes.length c d wa (HA.out.below La.out) (HC.out.below La.out) (by omega) (by omega)).mono ?_
          rintro ev wb ⟨rfl, hbb⟩
          have k15 := (K1.out.below hbb K1.out.lt).cell (i := 5) rfl
          have k25 := (K2.out.below hbb K2.out.lt).cell (i := 5) rfl
          have Lb := Lib.hid (below_chain La.out hbb)
          clear hbb
          cases h5 : decide (x.bytes = y.bytes) with
          | false =>
            rw [h5] at HE
            clear h5
            go_wp2
            go_ret
            exact ⟨by rw [HE.out]; rfl, Lb.out⟩
          | true =>
            rw [h5] at HE
            clear h5
            go_wp2_with fail
            refine (same_fates x.fates y.fates A' B' x.fates.length y.fates.length c' d' wb (HB.out.below Lb.out) (HD.out.below Lb.out) (by omega) (by omega)).mono ?_
            rintro ev wc ⟨rfl, hbc⟩
            have Lc := Lib.hid (below_chain Lb.out hbc)
            clear hbc
            generalize decide (x.fates = y.fates) = q at *
            go_wp2
            go_ret
            exact ⟨by rw [HE.out]; rfl, Lc.out⟩
        · have e4 : (x.snap == y.snap) = false := by simpa using h4
          have HE := Lib.hid (show eqS x y = false by unfold eqS; rw [decide_eq_false h4]; simp)
          clear h1 h2 h3 h4
          go_enter Tryz.func8, Tryz.ntmps8
          go_wp2
          go_ret
          exact ⟨by rw [HE.out]; rfl, (((Below.refl _ _).alloc (Nat.le_refl _) _).alloc (by simp) _)⟩
      · have e3 : (x.n == y.n) = false := by simpa using h3
        have HE := Lib.hid (show eqS x y = false by unfold eqS; rw [decide_eq_false h3]; simp)
        clear h1 h2 h3
        go_enter Tryz.func8, Tryz.ntmps8
        go_wp2
        go_ret
        exact ⟨by rw [HE.out]; rfl, (((Below.refl _ _).alloc (Nat.le_refl _) _).alloc (by simp) _)⟩
    · have e2 : (x.pos == y.pos) = false := by simpa using h2
      have HE := Lib.hid (show eqS x y = false by unfold eqS; rw [decide_eq_false h2]; simp)
      clear h1 h2
      go_enter Tryz.func8, Tryz.ntmps8
      go_wp2
      go_ret
      exact ⟨by rw [HE.out]; rfl, (((Below.refl _ _).alloc (Nat.le_refl _) _).alloc (by simp) _)⟩
  · have e1 : (x.kind == y.kind) = false := by simpa using h1
    have HE := Lib.hid (show eqS x y = false by unfold eqS; rw [decide_eq_false h1]; simp)
    clear h1
    go_enter Tryz.func8, Tryz.ntmps8
    go_wp2
    go_ret
    exact ⟨by rw [HE.out]; rfl, (((Below.refl _ _).alloc (Nat.le_refl _) _).alloc (by simp) _)⟩
end Go.Proofs.YtfehgpjnlkgekaaGreatDoor
