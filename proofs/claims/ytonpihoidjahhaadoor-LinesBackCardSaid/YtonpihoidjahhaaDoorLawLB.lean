/-
  LinesBack, walked.
-/
import Derived.Test.YtonpihoidjahhaaDoorLnArgS
import Derived.Test.YtonpihoidjahhaaDoorLnLine
import Derived.Test.YtonpihoidjahhaaDoorLnBare
import Derived.Test.YtonpihoidjahhaaDoorLawLTa
namespace Go.Proofs.YtonpihoidjahhaaDoor
open Go.RowKit
set_option linter.unusedVariables false
set_option linter.unusedSimpArgs false

theorem sp_ge : ∀ (l : List Int), l.length ≤ (sp (l.map Lib.itoa)).length
  | [] => by simp [sp]
  | z :: l => by
    have ih := sp_ge l
    simp only [sp, List.map_cons, List.flatMap_cons, List.length_append, List.length_cons] at ih ⊢
    omega
theorem hexW_ge (b : List Int) : b.length ≤ (hexW b).length := by
  unfold hexW
  split
  · rename_i h; rw [h]; simp
  · rw [hexL_len]; omega
theorem bare_len {y : StepV} (hb : bareS y = y) : y.bytes.length ≤ (lineL y).length ∧ y.fates.length ≤ (lineL y).length := by
  by_cases h2 : y.kind = 2
  · have hf : y.fates = [] := by
      rw [← hb]; unfold bareS; rw [if_neg (by omega), if_pos h2]
    refine ⟨?_, by rw [hf]; simp⟩
    unfold lineL toksL
    rw [if_pos (by omega), if_neg (by omega), if_pos h2]
    have := hexW_ge y.bytes
    simp [sp]
    omega
  · by_cases h10 : y.kind = 10
    · have hf : y.bytes = [] := by
        rw [← hb]; unfold bareS; rw [if_neg (by omega), if_neg h2, if_neg (by omega), if_neg (by omega), if_neg (by omega), if_pos h10]
      refine ⟨by rw [hf]; simp, ?_⟩
      unfold lineL toksL
      rw [if_pos (by omega), if_neg (by omega), if_neg h2, if_neg (by omega), if_neg (by omega), if_neg (by omega), if_pos h10]
      have := sp_ge y.fates
      rw [List.length_append]
      omega
    · have h0 : (bareS y).bytes = [] ∧ (bareS y).fates = [] := by
        unfold bareS
        rw [if_neg h2, if_neg h10]
        repeat (first | (split; exact ⟨rfl, rfl⟩) | exact ⟨rfl, rfl⟩)
      rw [hb] at h0
      rw [h0.1, h0.2]
      simp
theorem eq_str (l : List UInt8) (s : ByteArray) (h : l = s.data.toList) : (⟨l.toArray⟩ : ByteArray) = s := by
  subst h
  simp
set_option maxRecDepth 100000 in
set_option maxHeartbeats 3200000 in
theorem back_any (x : StepV) (v : Value) (s : ByteArray) (w : World) (hx : StepIn w v x) (hs : s.size ≤ 140737488351232) (ht : LnT w) (hd : DbT w) :
    Calls Tryd.prog 5 #[v, .string s] w fun e w' => e = .returned (.bool true) ∧ Below w.heap.size w w' := by
  obtain ⟨⟨A, c, A', c', rfl, ha, hf⟩, hok, hbn, hfn⟩ := hx
  have HT := Lib.hid ht
  have HD := Lib.hid hd
  have HA := Lib.hid ha
  have HF := Lib.hid hf
  have HOk := Lib.hid hok
  clear ht hd ha hf hok
  unfold stepVs
  go_enter Tryd.func5, Tryd.ntmps5
  go_wp2_with fail
  obtain ⟨w1, hw1⟩ : ∃ w1, w1 = w.alloc (Obj.cells (stepVs x (.slice A x.bytes.length c) (.slice A' x.fates.length c')) 39) := ⟨_, rfl⟩
  have K1 := Lib.hid (show Blk w1 w.heap.size 39 (stepVs x (.slice A x.bytes.length c) (.slice A' x.fates.length c')) by rw [hw1]; exact Blk.made _ _ _)
  have L1 := Lib.hid (show Below w.heap.size w w1 by rw [hw1]; exact (Below.refl _ _).alloc (Nat.le_refl _) _)
  unfold stepVs at hw1 K1
  rw [← hw1]
  clear hw1
  refine (awake_any w1 (HT.out.below L1.out)).mono ?_
  rintro ev w2 ⟨rfl, hb⟩
  have KX := Lib.hid (K1.out.below hb K1.out.lt)
  have LW := Lib.hid (below_chain L1.out hb)
  clear hb K1 L1
  have m0 := KX.out.cell (i := 0) rfl
  have m1 := KX.out.cell (i := 1) rfl
  have m2 := KX.out.cell (i := 2) rfl
  have m3 := KX.out.cell (i := 3) rfl
  have m4 := KX.out.cell (i := 4) rfl
  have m5 := KX.out.cell (i := 5) rfl
  by_cases hsz : s.size ≤ 20000
  · have hszI : ¬ (20000 : Int) < (s.size : Int) := by omega
    by_cases hln : x.bytes.length + x.fates.length ≤ 2000
    · have hlnI : ¬ (2000 : Int) < (x.bytes.length : Int) + (x.fates.length : Int) := by omega
      go_wp2_with fail
      refine (bare_any x _ w2 ⟨A, c, A', c', rfl, HA.out.below LW.out, HF.out.below LW.out⟩ HOk.out.k0 (by omega) (by omega)).mono ?_
      rintro ev w3 ⟨rfl, hb⟩
      have KY := Lib.hid (KX.out.below hb KX.out.lt)
      have LV := Lib.hid (below_chain LW.out hb)
      clear hb KX LW m0 m1 m2 m3 m4 m5
      have KX := KY
      have LW := LV
      clear KY LV
      have m0 := KX.out.cell (i := 0) rfl
      have m1 := KX.out.cell (i := 1) rfl
      have m2 := KX.out.cell (i := 2) rfl
      have m3 := KX.out.cell (i := 3) rfl
      have m4 := KX.out.cell (i := 4) rfl
      have m5 := KX.out.cell (i := 5) rfl
      cases hq : eqS x (bareS x) with
      | false =>
        clear hq
        go_wp2_with fail
        refine (step_any s _ (HT.out.below LW.out) (by omega)).mono ?_
        rintro ev wq ⟨hbq, he⟩
        have LQ := Lib.hid (below_chain LW.out hbq)
        clear hbq
        cases hst : stepL s.data.toList with
        | none =>
          rw [hst] at he
          simp only at he
          subst he
          unfold stepVs zeroS
          go_wp2_with fail
          obtain ⟨wr, hwr⟩ : ∃ wr, wr = wq.alloc (Obj.cells #[.int .u8 0, .int .i64 0, .int .i64 0, .int .i64 0, .slice none 0 0, .slice none 0 0] 39) := ⟨_, rfl⟩
          have LR := Lib.hid (below_chain LQ.out (show Below wq.heap.size wq wr by rw [hwr]; exact (Below.refl _ _).alloc (Nat.le_refl _) _))
          rw [← hwr]
          clear hwr
          refine (same_step (zeroS 0) (zeroS 0) _ _ wr ⟨none, 0, none, 0, rfl, RdI.nil _, RdI.nil _⟩ ⟨none, 0, none, 0, rfl, RdI.nil _, RdI.nil _⟩ (by decide) (by decide) (by decide) (by decide)).mono ?_
          rintro ev ws ⟨rfl, hb⟩
          rw [eqS_self]
          have LS := Lib.hid (below_chain LR.out hb)
          clear hb
          go_wp2
          go_ret
          exact ⟨rfl, LS.out⟩
        | some y =>
          rw [hst] at he
          simp only at he
          obtain ⟨Ay, cy, Ay', cy', rfl, hoy, hfy⟩ := he
          obtain ⟨hly, hby, hky⟩ := line_step hst
          have hlen := bare_len hby
          rw [hly, Array.length_toList] at hlen
          have hsz : s.data.size = s.size := rfl
          have RY := Lib.hid (RdI.of_own hoy)
          have RY' := Lib.hid (RdI.of_own hfy)
          have hy1 : y.bytes.length ≤ 20000 := by omega
          have hy2 : y.fates.length ≤ 20000 := by omega
          have HKy := Lib.hid hky
          have HBy := Lib.hid hby
          have HLy := Lib.hid hly
          clear hst hoy hfy hly hby hky hlen hsz
          unfold stepVs
          go_wp2_with fail
          obtain ⟨wr, hwr⟩ : ∃ wr, wr = wq.alloc (Obj.cells (stepVs y (.slice Ay y.bytes.length cy) (.slice Ay' y.fates.length cy')) 39) := ⟨_, rfl⟩
          have BR := Lib.hid (show Below wq.heap.size wq wr by rw [hwr]; exact (Below.refl _ _).alloc (Nat.le_refl _) _)
          have KR := Lib.hid (show Blk wr wq.heap.size 39 (stepVs y (.slice Ay y.bytes.length cy) (.slice Ay' y.fates.length cy')) by rw [hwr]; exact Blk.made _ _ _)
          unfold stepVs at hwr KR
          rw [← hwr]
          clear hwr
          have LR := Lib.hid (below_chain LQ.out BR.out)
          refine (line_any y _ wr ⟨Ay, cy, Ay', cy', rfl, RY.out.below BR.out, RY'.out.below BR.out⟩ HKy.out (HT.out.below LR.out) (HD.out.below LR.out) (by omega) (by omega)).mono ?_
          rintro ev ws ⟨rfl, hb⟩
          rw [HLy.out, eq_str _ s rfl]
          have KS := Lib.hid (KR.out.below hb KR.out.lt)
          have LS := Lib.hid (below_chain LR.out hb)
          have RZ := Lib.hid ((RY.out.below BR.out).below hb)
          have RZ' := Lib.hid ((RY'.out.below BR.out).below hb)
          clear hb KR LR
          have n0 := KS.out.cell (i := 0) rfl
          have n1 := KS.out.cell (i := 1) rfl
          have n2 := KS.out.cell (i := 2) rfl
          have n3 := KS.out.cell (i := 3) rfl
          have n4 := KS.out.cell (i := 4) rfl
          have n5 := KS.out.cell (i := 5) rfl
          go_wp2_with fail
          refine (bare_any y _ ws ⟨Ay, cy, Ay', cy', rfl, RZ.out, RZ'.out⟩ HKy.out.k0 (by omega) (by omega)).mono ?_
          rintro ev wt ⟨rfl, hb⟩
          rw [HBy.out, eqS_self]
          have LT := Lib.hid (below_chain LS.out hb)
          clear hb
          go_wp2
          go_ret
          exact ⟨rfl, LT.out⟩
      | true =>
        have HQ := Lib.hid ((eqS_iff x (bareS x)).1 hq)
        clear hq
        go_wp2_with fail
        refine (line_any x _ w3 ⟨A, c, A', c', rfl, HA.out.below LW.out, HF.out.below LW.out⟩ HOk.out (HT.out.below LW.out) (HD.out.below LW.out) (by omega) (by omega)).mono ?_
        rintro ev w4 ⟨rfl, hb⟩
        have KY := Lib.hid (KX.out.below hb KX.out.lt)
        have LV := Lib.hid (below_chain LW.out hb)
        clear hb KX LW m0 m1 m2 m3 m4 m5
        have KX := KY
        have LW := LV
        clear KY LV
        by_cases hle : lineL x = []
        · rw [hle]
          clear hle
          go_wp2_with fail
          refine (step_any s _ (HT.out.below LW.out) (by omega)).mono ?_
          rintro ev wq ⟨hbq, he⟩
          have LQ := Lib.hid (below_chain LW.out hbq)
          clear hbq
          cases hst : stepL s.data.toList with
          | none =>
            rw [hst] at he
            simp only at he
            subst he
            unfold stepVs zeroS
            go_wp2_with fail
            obtain ⟨wr, hwr⟩ : ∃ wr, wr = wq.alloc (Obj.cells #[.int .u8 0, .int .i64 0, .int .i64 0, .int .i64 0, .slice none 0 0, .slice none 0 0] 39) := ⟨_, rfl⟩
            have LR := Lib.hid (below_chain LQ.out (show Below wq.heap.size wq wr by rw [hwr]; exact (Below.refl _ _).alloc (Nat.le_refl _) _))
            rw [← hwr]
            clear hwr
            refine (same_step (zeroS 0) (zeroS 0) _ _ wr ⟨none, 0, none, 0, rfl, RdI.nil _, RdI.nil _⟩ ⟨none, 0, none, 0, rfl, RdI.nil _, RdI.nil _⟩ (by decide) (by decide) (by decide) (by decide)).mono ?_
            rintro ev ws ⟨rfl, hb⟩
            rw [eqS_self]
            have LS := Lib.hid (below_chain LR.out hb)
            clear hb
            go_wp2
            go_ret
            exact ⟨rfl, LS.out⟩
          | some y =>
            rw [hst] at he
            simp only at he
            obtain ⟨Ay, cy, Ay', cy', rfl, hoy, hfy⟩ := he
            obtain ⟨hly, hby, hky⟩ := line_step hst
            have hlen := bare_len hby
            rw [hly, Array.length_toList] at hlen
            have hsz : s.data.size = s.size := rfl
            have RY := Lib.hid (RdI.of_own hoy)
            have RY' := Lib.hid (RdI.of_own hfy)
            have hy1 : y.bytes.length ≤ 20000 := by omega
            have hy2 : y.fates.length ≤ 20000 := by omega
            have HKy := Lib.hid hky
            have HBy := Lib.hid hby
            have HLy := Lib.hid hly
            clear hst hoy hfy hly hby hky hlen hsz
            unfold stepVs
            go_wp2_with fail
            obtain ⟨wr, hwr⟩ : ∃ wr, wr = wq.alloc (Obj.cells (stepVs y (.slice Ay y.bytes.length cy) (.slice Ay' y.fates.length cy')) 39) := ⟨_, rfl⟩
            have BR := Lib.hid (show Below wq.heap.size wq wr by rw [hwr]; exact (Below.refl _ _).alloc (Nat.le_refl _) _)
            have KR := Lib.hid (show Blk wr wq.heap.size 39 (stepVs y (.slice Ay y.bytes.length cy) (.slice Ay' y.fates.length cy')) by rw [hwr]; exact Blk.made _ _ _)
            unfold stepVs at hwr KR
            rw [← hwr]
            clear hwr
            have LR := Lib.hid (below_chain LQ.out BR.out)
            refine (line_any y _ wr ⟨Ay, cy, Ay', cy', rfl, RY.out.below BR.out, RY'.out.below BR.out⟩ HKy.out (HT.out.below LR.out) (HD.out.below LR.out) (by omega) (by omega)).mono ?_
            rintro ev ws ⟨rfl, hb⟩
            rw [HLy.out, eq_str _ s rfl]
            have KS := Lib.hid (KR.out.below hb KR.out.lt)
            have LS := Lib.hid (below_chain LR.out hb)
            have RZ := Lib.hid ((RY.out.below BR.out).below hb)
            have RZ' := Lib.hid ((RY'.out.below BR.out).below hb)
            clear hb KR LR
            have n0 := KS.out.cell (i := 0) rfl
            have n1 := KS.out.cell (i := 1) rfl
            have n2 := KS.out.cell (i := 2) rfl
            have n3 := KS.out.cell (i := 3) rfl
            have n4 := KS.out.cell (i := 4) rfl
            have n5 := KS.out.cell (i := 5) rfl
            go_wp2_with fail
            refine (bare_any y _ ws ⟨Ay, cy, Ay', cy', rfl, RZ.out, RZ'.out⟩ HKy.out.k0 (by omega) (by omega)).mono ?_
            rintro ev wt ⟨rfl, hb⟩
            rw [HBy.out, eqS_self]
            have LT := Lib.hid (below_chain LS.out hb)
            clear hb
            go_wp2
            go_ret
            exact ⟨rfl, LT.out⟩
        · obtain ⟨S, hS⟩ : ∃ S : ByteArray, S = ⟨(lineL x).toArray⟩ := ⟨_, rfl⟩
          rw [← hS]
          have hne : S.toList = [] → False := fun h => by rw [ba_list, hS] at h; exact hle h
          have e1 : S.toList.isEmpty = false := by
            cases h : S.toList with
            | nil => exact absurd h (fun h => hne h)
            | cons a b => rfl
          have e2 : (!S.toList.isEmpty) = true := by rw [e1]; rfl
          have hSd : S.data.toList = lineL x := by rw [hS]
          have hkk : 1 ≤ x.kind ∧ x.kind ≤ 12 := by
            by_cases h : 1 ≤ x.kind ∧ x.kind ≤ 12
            · exact h
            · exact absurd (by unfold lineL; rw [if_neg h]) hle
          have HSt := Lib.hid (step_line HOk.out hkk HQ.out.symm)
          have hSz : S.size ≤ 1048576 := by
            have h1 := line_len HOk.out
            rw [hS, ba_size]
            omega
          have HS := Lib.hid hS
          have HSd := Lib.hid hSd
          clear hS hne hSd hkk hle
          have m0 := KX.out.cell (i := 0) rfl
          have m1 := KX.out.cell (i := 1) rfl
          have m2 := KX.out.cell (i := 2) rfl
          have m3 := KX.out.cell (i := 3) rfl
          have m4 := KX.out.cell (i := 4) rfl
          have m5 := KX.out.cell (i := 5) rfl
          go_wp2_with fail
          refine (line_any x _ w4 ⟨A, c, A', c', rfl, HA.out.below LW.out, HF.out.below LW.out⟩ HOk.out (HT.out.below LW.out) (HD.out.below LW.out) (by omega) (by omega)).mono ?_
          rintro ev w5 ⟨rfl, hb⟩
          rw [← HS.out]
          have KY := Lib.hid (KX.out.below hb KX.out.lt)
          have LV := Lib.hid (below_chain LW.out hb)
          clear hb KX LW m0 m1 m2 m3 m4 m5
          go_wp2_with fail
          refine (step_some (nb := x.bytes.length) (nf := x.fates.length) S w5 (HT.out.below LV.out) HSd.out HSt.out hSz rfl rfl).mono ?_
          rintro ev w6 ⟨hb, B, d, B', d', rfl, hB, hB'⟩
          have KX := Lib.hid (KY.out.below hb KY.out.lt)
          have LW := Lib.hid (below_chain LV.out hb)
          have RB := Lib.hid hB
          have RB' := Lib.hid hB'
          clear hb hB hB' KY LV
          have m0 := cell_al (KX.out.cell (i := 0) rfl)
          have m1 := cell_al (KX.out.cell (i := 1) rfl)
          have m2 := cell_al (KX.out.cell (i := 2) rfl)
          have m3 := cell_al (KX.out.cell (i := 3) rfl)
          have m4 := cell_al (KX.out.cell (i := 4) rfl)
          have m5 := cell_al (KX.out.cell (i := 5) rfl)
          unfold stepVs
          go_wp2_with fail
          obtain ⟨w7, hw7⟩ : ∃ w7, w7 = w6.alloc (Obj.cells (stepVs x (.slice B x.bytes.length d) (.slice B' x.fates.length d')) 39) := ⟨_, rfl⟩
          have B7 := Lib.hid (show Below w6.heap.size w6 w7 by rw [hw7]; exact (Below.refl _ _).alloc (Nat.le_refl _) _)
          unfold stepVs at hw7
          rw [← hw7]
          clear hw7 m0 m1 m2 m3 m4 m5
          have LV := Lib.hid (below_chain LW.out B7.out)
          refine (same_step x x _ _ w7 ⟨A, c, A', c', rfl, HA.out.below LV.out, HF.out.below LV.out⟩ ⟨B, d, B', d', rfl, RB.out.below B7.out, RB'.out.below B7.out⟩ (by omega) (by omega) (by omega) (by omega)).mono ?_
          rintro ev w8 ⟨rfl, hb⟩
          rw [eqS_self]
          have LU := Lib.hid (below_chain LV.out hb)
          clear hb LW LV KX
          have LW := LU
          clear LU
          go_wp2_with fail
          refine (step_any s _ (HT.out.below LW.out) (by omega)).mono ?_
          rintro ev wq ⟨hbq, he⟩
          have LQ := Lib.hid (below_chain LW.out hbq)
          clear hbq
          cases hst : stepL s.data.toList with
          | none =>
            rw [hst] at he
            simp only at he
            subst he
            unfold stepVs zeroS
            go_wp2_with fail
            obtain ⟨wr, hwr⟩ : ∃ wr, wr = wq.alloc (Obj.cells #[.int .u8 0, .int .i64 0, .int .i64 0, .int .i64 0, .slice none 0 0, .slice none 0 0] 39) := ⟨_, rfl⟩
            have LR := Lib.hid (below_chain LQ.out (show Below wq.heap.size wq wr by rw [hwr]; exact (Below.refl _ _).alloc (Nat.le_refl _) _))
            rw [← hwr]
            clear hwr
            refine (same_step (zeroS 0) (zeroS 0) _ _ wr ⟨none, 0, none, 0, rfl, RdI.nil _, RdI.nil _⟩ ⟨none, 0, none, 0, rfl, RdI.nil _, RdI.nil _⟩ (by decide) (by decide) (by decide) (by decide)).mono ?_
            rintro ev ws ⟨rfl, hb⟩
            rw [eqS_self]
            have LS := Lib.hid (below_chain LR.out hb)
            clear hb
            go_wp2
            go_ret
            exact ⟨rfl, LS.out⟩
          | some y =>
            rw [hst] at he
            simp only at he
            obtain ⟨Ay, cy, Ay', cy', rfl, hoy, hfy⟩ := he
            obtain ⟨hly, hby, hky⟩ := line_step hst
            have hlen := bare_len hby
            rw [hly, Array.length_toList] at hlen
            have hsz : s.data.size = s.size := rfl
            have RY := Lib.hid (RdI.of_own hoy)
            have RY' := Lib.hid (RdI.of_own hfy)
            have hy1 : y.bytes.length ≤ 20000 := by omega
            have hy2 : y.fates.length ≤ 20000 := by omega
            have HKy := Lib.hid hky
            have HBy := Lib.hid hby
            have HLy := Lib.hid hly
            clear hst hoy hfy hly hby hky hlen hsz
            unfold stepVs
            go_wp2_with fail
            obtain ⟨wr, hwr⟩ : ∃ wr, wr = wq.alloc (Obj.cells (stepVs y (.slice Ay y.bytes.length cy) (.slice Ay' y.fates.length cy')) 39) := ⟨_, rfl⟩
            have BR := Lib.hid (show Below wq.heap.size wq wr by rw [hwr]; exact (Below.refl _ _).alloc (Nat.le_refl _) _)
            have KR := Lib.hid (show Blk wr wq.heap.size 39 (stepVs y (.slice Ay y.bytes.length cy) (.slice Ay' y.fates.length cy')) by rw [hwr]; exact Blk.made _ _ _)
            unfold stepVs at hwr KR
            rw [← hwr]
            clear hwr
            have LR := Lib.hid (below_chain LQ.out BR.out)
            refine (line_any y _ wr ⟨Ay, cy, Ay', cy', rfl, RY.out.below BR.out, RY'.out.below BR.out⟩ HKy.out (HT.out.below LR.out) (HD.out.below LR.out) (by omega) (by omega)).mono ?_
            rintro ev ws ⟨rfl, hb⟩
            rw [HLy.out, eq_str _ s rfl]
            have KS := Lib.hid (KR.out.below hb KR.out.lt)
            have LS := Lib.hid (below_chain LR.out hb)
            have RZ := Lib.hid ((RY.out.below BR.out).below hb)
            have RZ' := Lib.hid ((RY'.out.below BR.out).below hb)
            clear hb KR LR
            have n0 := KS.out.cell (i := 0) rfl
            have n1 := KS.out.cell (i := 1) rfl
            have n2 := KS.out.cell (i := 2) rfl
            have n3 := KS.out.cell (i := 3) rfl
            have n4 := KS.out.cell (i := 4) rfl
            have n5 := KS.out.cell (i := 5) rfl
            go_wp2_with fail
            refine (bare_any y _ ws ⟨Ay, cy, Ay', cy', rfl, RZ.out, RZ'.out⟩ HKy.out.k0 (by omega) (by omega)).mono ?_
            rintro ev wt ⟨rfl, hb⟩
            rw [HBy.out, eqS_self]
            have LT := Lib.hid (below_chain LS.out hb)
            clear hb
            go_wp2
            go_ret
            exact ⟨rfl, LT.out⟩
    · have hlnI : (2000 : Int) < (x.bytes.length : Int) + (x.fates.length : Int) := by omega
      go_wp2
      go_ret
      exact ⟨rfl, LW.out⟩
  · have hszI : (20000 : Int) < (s.size : Int) := by omega
    go_wp2
    go_ret
    exact ⟨rfl, LW.out⟩
end Go.Proofs.YtonpihoidjahhaaDoor
