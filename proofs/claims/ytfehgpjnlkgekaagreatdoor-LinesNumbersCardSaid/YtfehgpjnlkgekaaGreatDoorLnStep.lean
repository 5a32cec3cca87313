/-
  lines.Step, walked.
-/
import Derived.Test.YtfehgpjnlkgekaaGreatDoorLnRead
import Derived.Lib.SplitLaws
namespace Go.Proofs.YtfehgpjnlkgekaaGreatDoor
open Go.RowKit
set_option linter.unusedVariables false
set_option linter.unusedSimpArgs false

theorem words_le : ∀ (l t : List UInt8), t ∈ wordsL l → t.length ≤ l.length
  | [], t, h => by
    simp [wordsL] at h
    subst h
    simp
  | c :: r, t, h => by
    by_cases hc : c = 32
    · subst hc
      rw [words_space] at h
      rcases List.mem_cons.1 h with rfl | h
      · simp
      · have := words_le r t h
        simp only [List.length_cons]; omega
    · rw [words_other hc] at h
      cases hw : wordsL r with
      | nil => exact absurd hw (words_ne r)
      | cons a b =>
        rw [hw] at h
        simp only [glue, List.mem_cons] at h
        rcases h with rfl | h
        · have := words_le r a (by rw [hw]; simp)
          simp only [List.length_append, List.length_cons, List.length_nil]; omega
        · have := words_le r t (by rw [hw]; simp [h])
          simp only [List.length_cons]; omega
theorem split_ws (s : ByteArray) : ∃ w0 ws, Lib.splitB ⟨#[32]⟩ 0 (Lib.countB s ⟨#[32]⟩) s = w0 :: ws ∧ wordsL s.data.toList = w0.data.toList :: lists ws ∧ Lib.countB s ⟨#[32]⟩ = ws.length := by
  have h1 := Lib.splitB_data ⟨#[32]⟩ 0 (Lib.countB s ⟨#[32]⟩) s
  have h2 : Lib.splitK [32] 0 (Lib.countB s ⟨#[32]⟩) s.data.toList = wordsL s.data.toList := split_words _ _ (Nat.le_refl _)
  have h3 := Lib.splitB_all ⟨#[32]⟩ (by decide) 0 (Lib.countB s ⟨#[32]⟩) s rfl
  rw [h2] at h1
  cases hw : Lib.splitB ⟨#[32]⟩ 0 (Lib.countB s ⟨#[32]⟩) s with
  | nil => rw [hw] at h3; simp at h3
  | cons w0 ws =>
    rw [hw] at h1 h3
    exact ⟨w0, ws, rfl, h1.symm, by simp at h3; omega⟩
def StepPost (l : List UInt8) (w : World) (e : Ending) (w' : World) : Prop :=
  Below w.heap.size w w' ∧ match stepL l with
    | some y => ∃ A c A' c', e = .returned (.tuple #[.agg (stepVs y (.slice A y.bytes.length c) (.slice A' y.fates.length c')), .int .i64 0]) ∧ w'.ownsRow w.heap.size 5 1 (.slice A y.bytes.length c) y.bytes.length (y.bytes.map (Value.int .u8)) ∧ w'.ownsRow w.heap.size 50 1 (.slice A' y.fates.length c') y.fates.length (y.fates.map (Value.int .i64))
    | none => e = .returned (.tuple #[.agg (stepVs (zeroS 0) (.slice none 0 0) (.slice none 0 0)), .int .i64 310])
set_option maxRecDepth 100000 in
set_option maxHeartbeats 1600000 in
theorem step_any (s : ByteArray) (w : World) (ht : LnT w) (hs : s.size ≤ 1048576) :
    Calls Tryz.prog 6 #[.string s] w (StepPost s.data.toList w) := by
  have HT := Lib.hid ht
  clear ht
  obtain ⟨m, hm⟩ := HT.out.mx
  have HM := Lib.hid hm
  obtain ⟨w0, ws, hsp, hwd, hcnt⟩ := split_ws s
  have HL := Lib.hid (show stepL s.data.toList = readL w0.data.toList (lists ws) by unfold stepL; rw [hwd])
  have hlen : ∀ t ∈ w0 :: ws, t.size ≤ 1048576 := fun t h => by
    have h1 := words_le s.data.toList t.data.toList (by
      rw [hwd]
      rcases List.mem_cons.1 h with rfl | h
      · simp
      · exact List.mem_cons.2 (.inr (List.mem_map.2 ⟨t, h, rfl⟩)))
    simp only [Array.length_toList] at h1
    have e1 : t.data.size = t.size := rfl
    have e2 : s.data.size = s.size := rfl
    omega
  have hc := Lib.countB_le ⟨#[32]⟩ (by decide) s.size s (Nat.le_refl _)
  have HSp := Lib.hid hsp
  have HC := Lib.hid hcnt
  have HLen := Lib.hid hlen
  clear hm hsp hwd hcnt hlen
  go_enter Tryz.func6, Tryz.ntmps6
  go_wp2_with fail
  obtain ⟨wa, hwa⟩ : ∃ wa, wa = w.alloc (Obj.cells (stepVs (zeroS 0) (.slice none 0 0) (.slice none 0 0)) 27) := ⟨_, rfl⟩
  have Ka := Lib.hid (show Blk wa w.heap.size 27 (stepVs (zeroS 0) (.slice none 0 0) (.slice none 0 0)) by rw [hwa]; exact Blk.made _ _ _)
  have La := Lib.hid (show Below w.heap.size w wa by rw [hwa]; exact (Below.refl _ _).alloc (Nat.le_refl _) _)
  unfold stepVs zeroS at hwa
  simp only at hwa
  rw [← hwa]
  clear hwa
  refine (Tryz.strings_Split s ⟨#[32]⟩ m wa (by omega) (cell_low HM.out La.out) (by decide)).mono ?_
  rintro ev wb ⟨rfl, hwb⟩
  rw [HSp.out] at hwb
  have Lb := Lib.hid (show Below wa.heap.size wa wb by rw [hwb]; exact (Below.refl _ _).alloc (Nat.le_refl _) _)
  have Wb := Lib.hid (show WdAt wb wa.heap.size 0 (w0 :: ws) by
    intro j hj
    rw [hwb, Nat.zero_add]
    refine (Blk.made wa _ _).cell ?_
    rw [List.getElem?_toArray, List.getElem?_map, List.getElem?_eq_getElem hj]; rfl)
  clear hwb
  have Kb := Lib.hid (Ka.out.below Lb.out Ka.out.lt)
  have Mb := Lib.hid (below_chain La.out Lb.out)
  have hwl : ws.length ≤ 1048576 := by have := HC.out; omega
  rw [HC.out]
  clear hc Ka
  go_wp2_with fail
  refine (read_any w0 ws wa.heap.size 0 (ws.length + 1) (ws.length + 1) wb Wb.out rfl (Nat.le_refl _) (by omega) (fun t h => by have := HLen.out t h; omega) (by omega) (HT.out.below Mb.out)).mono ?_
  rintro ev wc ⟨hbc, he⟩
  have Kc := Lib.hid (Kb.out.below hbc Kb.out.lt)
  have Mc := Lib.hid (below_chain Mb.out hbc)
  clear hbc Kb
  cases hr : readL w0.data.toList (lists ws) with
  | none =>
    rw [hr] at he
    simp only at he
    obtain ⟨y, A, n, c, A', n', c', rfl⟩ := he
    have HR := Lib.hid (HL.out.trans hr)
    clear hr
    unfold stepVs
    go_wp2_with fail
    obtain ⟨wd, hwd⟩ : ∃ wd, wd = wc.alloc (Obj.cells (stepVs y (.slice A n c) (.slice A' n' c')) 27) := ⟨_, rfl⟩
    have Ld := Lib.hid (show Below wc.heap.size wc wd by rw [hwd]; exact (Below.refl _ _).alloc (Nat.le_refl _) _)
    unfold stepVs at hwd
    rw [← hwd]
    clear hwd
    have KY := Lib.hid (Kc.out.below Ld.out Kc.out.lt)
    have Md := Lib.hid (below_chain Mc.out Ld.out)
    refine (is_wrong wd).mono ?_
    rintro ev w' ⟨rfl, rfl⟩
    unfold stepVs zeroS at KY
    have y0 := KY.out.cell (i := 0) rfl
    have z0 := KY.out.free 0
    have y1 := KY.out.cell (i := 1) rfl
    have z1 := KY.out.free 1
    have y2 := KY.out.cell (i := 2) rfl
    have z2 := KY.out.free 2
    have y3 := KY.out.cell (i := 3) rfl
    have z3 := KY.out.free 3
    have y4 := KY.out.cell (i := 4) rfl
    have z4 := KY.out.free 4
    have y5 := KY.out.cell (i := 5) rfl
    have z5 := KY.out.free 5
    go_wp2
    have S6 := six_facts KY.out (.int .u8 0) (.int .i64 0) (.int .i64 0) (.int .i64 0) (.slice none 0 0) (.slice none 0 0)
    refine bodyPost_ret (results_blk_tmp rfl _ w.heap.size rfl _ _ S6.1 _ Tryz.underlying27 rfl 6 infoStep rfl) rfl ?_
    refine ⟨S6.2.1 _ _ Md.out (Nat.le_refl _), ?_⟩
    rw [HR.out]
    rfl
  | some y =>
    rw [hr] at he
    simp only at he
    obtain ⟨B, F, rfl, hB, hF⟩ := he
    obtain ⟨A, c, rfl, _⟩ := own_slice hB
    obtain ⟨A', c', rfl, _⟩ := own_slice hF
    have HB := Lib.hid (own_base8 hB Mb.out.size)
    have HF := Lib.hid (own_base8 hF Mb.out.size)
    have HR := Lib.hid (HL.out.trans hr)
    clear hr hB hF
    unfold stepVs
    go_wp2_with fail
    obtain ⟨wd, hwd⟩ : ∃ wd, wd = wc.alloc (Obj.cells (stepVs y (.slice A y.bytes.length c) (.slice A' y.fates.length c')) 27) := ⟨_, rfl⟩
    have Ld := Lib.hid (show Below wc.heap.size wc wd by rw [hwd]; exact (Below.refl _ _).alloc (Nat.le_refl _) _)
    have Kd := Lib.hid (show Blk wd wc.heap.size 27 (stepVs y (.slice A y.bytes.length c) (.slice A' y.fates.length c')) by rw [hwd]; exact Blk.made _ _ _)
    unfold stepVs at hwd
    rw [← hwd]
    clear hwd
    have KY := Lib.hid (Kc.out.below Ld.out Kc.out.lt)
    have Md := Lib.hid (below_chain Mc.out Ld.out)
    have HB2 := Lib.hid (own_lo8 HB.out Ld.out)
    have HF2 := Lib.hid (own_lo8 HF.out Ld.out)
    refine (is_nil wd).mono ?_
    rintro ev w' ⟨rfl, rfl⟩
    unfold stepVs at Kd
    have x0 := Kd.out.cell (i := 0) rfl
    have x1 := Kd.out.cell (i := 1) rfl
    have x2 := Kd.out.cell (i := 2) rfl
    have x3 := Kd.out.cell (i := 3) rfl
    have x4 := Kd.out.cell (i := 4) rfl
    have x5 := Kd.out.cell (i := 5) rfl
    unfold stepVs zeroS at KY
    have y0 := KY.out.cell (i := 0) rfl
    have z0 := KY.out.free 0
    have y1 := KY.out.cell (i := 1) rfl
    have z1 := KY.out.free 1
    have y2 := KY.out.cell (i := 2) rfl
    have z2 := KY.out.free 2
    have y3 := KY.out.cell (i := 3) rfl
    have z3 := KY.out.free 3
    have y4 := KY.out.cell (i := 4) rfl
    have z4 := KY.out.free 4
    have y5 := KY.out.cell (i := 5) rfl
    have z5 := KY.out.free 5
    go_wp2
    have S6 := six_facts KY.out (.int .u8 y.kind) (.int .i64 y.pos) (.int .i64 y.n) (.int .i64 y.snap) (.slice A y.bytes.length c) (.slice A' y.fates.length c')
    refine bodyPost_ret (results_blk_tmp rfl _ w.heap.size rfl _ _ S6.1 _ Tryz.underlying27 rfl 6 infoStep rfl) rfl ?_
    refine ⟨S6.2.1 _ _ Md.out (Nat.le_refl _), ?_⟩
    rw [HR.out]
    exact ⟨_, _, _, _, rfl, S6.2.2 _ _ _ _ _ _ HB2.out (by decide), S6.2.2 _ _ _ _ _ _ HF2.out (by decide)⟩
set_option maxHeartbeats 400000 in
theorem step_long (s : ByteArray) (w : World) (h : 1048576 < s.size) (hs : s.size ≤ 9223372036854775807) :
    Calls Tryz.prog 6 #[.string s] w fun e w' => e = .returned (.tuple #[.agg (stepVs (zeroS 0) (.slice none 0 0) (.slice none 0 0)), .int .i64 3]) ∧ Below w.heap.size w w' := by
  have h' : (1048576 : Int) < (s.size : Int) := by omega
  go_enter Tryz.func6, Tryz.ntmps6
  go_wp2
  refine bodyPost_ret (results_blk_tmp rfl _ w.heap.size rfl _ _ (Blk.made w 27 #[.int .u8 0, .int .i64 0, .int .i64 0, .int .i64 0, .slice none 0 0, .slice none 0 0]) _ Tryz.underlying27 rfl 6 infoStep rfl) rfl ?_
  exact ⟨rfl, (Below.refl _ _).alloc (Nat.le_refl _) _⟩
end Go.Proofs.YtfehgpjnlkgekaaGreatDoor
