/-
  the document's Step: walked.
-/
import Derived.Test.YtfehgpjnlkgekaaGreatDoorLnRw
import Derived.Test.YtfehgpjnlkgekaaGreatDoorLnRn
import Derived.Test.YtfehgpjnlkgekaaGreatDoorLnRh
namespace Go.Proofs.YtfehgpjnlkgekaaGreatDoor
open Go.RowKit
set_option linter.unusedVariables false
set_option linter.unusedSimpArgs false

def FrOk (R : List (List UInt8)) (j : Nat) (fl : List Int) (okb : Bool) : Prop := (okb = true ∧ fatesL R = (fatesL (R.drop j)).map (fl ++ ·)) ∨ (okb = false ∧ fatesL R = none)
theorem drop_at {R : List (List UInt8)} {j : Nat} {t : List UInt8} (h : R[j]? = some t) : R.drop j = t :: R.drop (j + 1) := by
  have hj : j < R.length := by
    rcases Nat.lt_or_ge j R.length with h1 | h1
    · exact h1
    · rw [List.getElem?_eq_none h1] at h; cases h
  rw [List.drop_eq_getElem_cons hj]
  rw [List.getElem?_eq_getElem hj] at h
  injection h with h
  rw [h]
theorem FrOk.good {R : List (List UInt8)} {j : Nat} {fl : List Int} {okb : Bool} (h : FrOk R j fl okb) {t : List UInt8} (ht : R[j]? = some t) {v : Int} (hv : numL t = some v) : FrOk R (j + 1) (fl ++ [v]) okb := by
  rcases h with ⟨e, h⟩ | h
  · refine .inl ⟨e, ?_⟩
    rw [h, drop_at ht, fatesL, hv]
    cases fatesL (R.drop (j + 1)) with
    | none => rfl
    | some l => simp
  · exact .inr h
theorem FrOk.bad {R : List (List UInt8)} {j : Nat} {fl : List Int} {okb : Bool} (h : FrOk R j fl okb) {t : List UInt8} (ht : R[j]? = some t) (hv : numL t = none) (fl2 : List Int) : FrOk R (j + 1) fl2 false := by
  rcases h with ⟨e, h⟩ | h
  · refine .inr ⟨rfl, ?_⟩
    rw [h, drop_at ht, fatesL, hv]
    rfl
  · exact .inr ⟨rfl, h.2⟩
theorem str_eq1 (fs : List UInt8) (L : List UInt8) : ((⟨fs.toArray⟩ : ByteArray).toList == L) = decide (fs = L) := by
  rw [ba_list]
  exact beq_dec _ _
theorem sz_list (t : List UInt8) : (⟨t.toArray⟩ : ByteArray).size = t.length := by rw [← len_ba]
theorem words_count : ∀ l : List UInt8, (wordsL l).length ≤ l.length + 1
  | [] => by simp [wordsL]
  | c :: r => by
    have h := words_count r
    by_cases hc : c = 32
    · subst hc
      rw [words_space]
      simp only [List.length_cons]; omega
    · rw [words_other hc]
      cases hw : wordsL r with
      | nil => exact absurd hw (words_ne r)
      | cons a b =>
        rw [hw] at h
        simp only [glue, List.length_cons] at h ⊢; omega
def FrI (R : List (List UInt8)) (gx : Nat) (wc : World) (k : Nat) (okv iv : Value) (wr : World) : Prop :=
  ∃ (j : Nat) (okb : Bool) (fl : List Int), okv = .bool okb ∧ iv = .int .i64 (((j + 1 : Nat)) : Int) ∧ j + k = R.length ∧ fl.length = j ∧ StAt wr wc.heap.size gx (fatS 10 fl) ∧ Below wc.heap.size wc wr ∧ FrOk R j fl okb
theorem FrOk.end_ {R : List (List UInt8)} {fl : List Int} {okb : Bool} (h : FrOk R R.length fl okb) : fatesL R = if okb then some fl else none := by
  rcases h with ⟨e, h⟩ | ⟨e, h⟩
  · rw [e, h, List.drop_length]
    simp [fatesL]
  · rw [e, h]; rfl
theorem follow_fat (R : List (List UInt8)) : followX [102] 0 R (zeroS 10) = (fatesL R).map (fatS 10) := by
  unfold followX fieldX
  rw [if_pos rfl]
  cases fatesL R with
  | none => rfl
  | some l => rfl
def RdI2 (fs : List UInt8) (R : List (List UInt8)) (x0 : StepV) (gx : Nat) (wc : World) (k : Nat) (okv iv : Value) (wr : World) : Prop :=
  ∃ (i : Nat) (okb : Bool), okv = .bool okb ∧ iv = .int .i64 ((i : Nat) : Int) ∧ i ≤ fs.length ∧ i + k = fs.length ∧ Below wc.heap.size wc wr ∧
    ((okb = true ∧ ∃ y, StAt wr wc.heap.size gx y ∧ followX fs 0 R x0 = followX (fs.drop i) i R y) ∨ (okb = false ∧ followX fs 0 R x0 = none))
theorem ba_at {fs : List UInt8} {i : Nat} {f : UInt8} (h : fs[i]? = some f) (hh : i < (⟨fs.toArray⟩ : ByteArray).size) : (⟨fs.toArray⟩ : ByteArray)[i]'hh = f := by
  obtain ⟨h1, h2⟩ := ba_fs h
  exact h2
set_option maxRecDepth 100000 in
set_option maxHeartbeats 3200000 in
theorem rstep_any (s : ByteArray) (w : World) (hs : s.size ≤ 1000000) :
    Calls Tryz.prog 7 #[.string s] w (StepPost s.data.toList w) := by
  obtain ⟨W0, R, hwd⟩ : ∃ W0 R, wordsL s.data.toList = W0 :: R := by
    cases h : wordsL s.data.toList with
    | nil => exact absurd h (words_ne _)
    | cons a b => exact ⟨a, b, rfl⟩
  have HL := Lib.hid (show stepL s.data.toList = readL W0 R by unfold stepL; rw [hwd])
  have hsz := len_ba s
  have hlen : ∀ t ∈ W0 :: R, t.length ≤ 1000000 := fun t h => by
    have := words_le s.data.toList t (by rw [hwd]; exact h)
    omega
  have HLen := Lib.hid hlen
  have hR2 : R.length ≤ 1000000 := by
    have h := words_count s.data.toList
    rw [hwd, hsz, List.length_cons] at h
    omega
  have HWd := Lib.hid hwd
  obtain ⟨kn, hkn⟩ : ∃ kn : Nat, (shapeL W0).1 = kn := ⟨(shapeL W0).1.toNat, by have := (shape_facts W0).1; omega⟩
  obtain ⟨fs, hfs⟩ : ∃ fs, (shapeL W0).2 = fs := ⟨_, rfl⟩
  have hF := shape_facts W0
  rw [hkn, hfs] at hF
  have HF := Lib.hid hF
  have hk12 : kn ≤ 12 := by have := hF.2.1; omega
  have hf3 : fs.length ≤ 3 := hF.2.2.1
  have HRd := Lib.hid (show readL W0 R = if (kn : Int) = 0 then none else if (kn : Int) ≠ 10 ∧ R.length ≠ fs.length then none else followX fs 0 R (zeroS kn) by unfold readL; rw [hkn, hfs])
  have HSh := Lib.hid (show shapeL W0 = ((kn : Int), fs) by rw [← hkn, ← hfs])
  clear hkn hfs hF hlen hwd
  go_enter Tryz.func7, Tryz.ntmps7
  go_wp2_with fail
  obtain ⟨wa, hwa⟩ : ∃ wa, wa = w.alloc (Obj.cells (stepVs (zeroS 0) (.slice none 0 0) (.slice none 0 0)) 27) := ⟨_, rfl⟩
  have Ka := Lib.hid (show Blk wa w.heap.size 27 (stepVs (zeroS 0) (.slice none 0 0) (.slice none 0 0)) by rw [hwa]; exact Blk.made _ _ _)
  have La := Lib.hid (show Below w.heap.size w wa by rw [hwa]; exact (Below.refl _ _).alloc (Nat.le_refl _) _)
  unfold stepVs zeroS at hwa
  simp only at hwa
  rw [← hwa]
  clear hwa
  refine (rwords_any s wa (by omega)).mono ?_
  rintro e wb ⟨v, rfl, hov, hb⟩
  rw [HWd.out] at hov
  obtain ⟨gw, cw, hv, hgw, _⟩ := hov.form (by simp)
  subst hv
  have OV := Lib.hid hov
  have Lb := Lib.hid (below_chain La.out hb)
  have Kb := Lib.hid (Ka.out.below hb Ka.out.lt)
  have cell := fun j (hj : j < R.length + 1) => hov.cellAt j (by simpa using hj)
  have HC := Lib.hid cell
  have cW := cell 0 (by omega)
  simp only [List.map_cons, List.getElem?_cons_zero] at cW
  unfold strV at cW
  clear hov hb cell
  rw [show (W0 :: R).length = R.length + 1 from rfl]
  go_wp2_with fail
  refine (rshape_any ⟨W0.toArray⟩ wb).mono ?_
  rintro ev wc ⟨rfl, rfl⟩
  rw [show (⟨W0.toArray⟩ : ByteArray).data.toList = W0 from rfl, HSh.out]
  obtain ⟨wd, hwd⟩ : ∃ wd, wd = wc.alloc (Obj.cells (stepVs (zeroS kn) (.slice none 0 0) (.slice none 0 0)) 27) := ⟨_, rfl⟩
  have Kd := Lib.hid (show Blk wd wc.heap.size 27 (stepVs (zeroS kn) (.slice none 0 0) (.slice none 0 0)) by rw [hwd]; exact Blk.made _ _ _)
  have Ld := Lib.hid (show Below wc.heap.size wc wd by rw [hwd]; exact (Below.refl _ _).alloc (Nat.le_refl _) _)
  have HWC := Lib.hid (Lib.hid hwd)
  clear hwd
  by_cases hff : fs = [102]
  · have e1 : (fs == [102]) = true := by rw [hff]; rfl
    have hk10 : kn = 10 := by
      rcases Nat.decEq kn 10 with h | h
      · exact absurd (show (102 : UInt8) ∈ fs by rw [hff]; simp) (HF.out.2.2.2.2.2 (by omega))
      · exact h
    subst hk10
    have HR := Lib.hid (show readL W0 R = (fatesL R).map (fatS 10) by
      rw [HRd.out, if_neg (by decide), if_neg (by omega), hff]
      exact follow_fat R)
    clear hff HRd HF
    -- A(
    go_wp2_with fail
    have hwd := HWC.out.out
    unfold stepVs zeroS at hwd
    simp only at hwd
    rw [show ((10 : Nat) : Int) = 10 from rfl] at hwd
    rw [← hwd]
    clear hwd
    go_loopg [8, 9] R.length (FrI R wc.heap.size wc)
    case atStart => exact ⟨0, true, [], rfl, rfl, by omega, rfl, ⟨_, _, Kd.out, World.ownsRow_nil _ _ _ _, World.ownsRow_nil _ _ _ _⟩, Ld.out, .inl ⟨rfl, by simp⟩⟩
    case round =>
      obtain ⟨j, okb, fl, rfl, rfl, hjk, hfl, hst, hbw, hok⟩ := hrel
      have BW := Lib.hid hbw
      have HFl := Lib.hid hfl
      have HOk := Lib.hid hok
      have hj2 : j ≤ R.length := by omega
      have hfl2 : fl.length ≤ 1000000 := by omega
      obtain ⟨B, F, st1, st2, st3⟩ := hst
      obtain ⟨BA, bc, rfl, _⟩ := own_slice st2
      obtain ⟨FA, fc, rfl, _⟩ := own_slice st3
      have ST2 := Lib.hid st2
      have ST3 := Lib.hid st3
      have x5 := st1.cell (i := 5) rfl
      have xf := st1.free 5
      clear hfl st2 st3 hbw hok
      by_cases hjR : j < R.length
      · have hjI : (j : Int) + 1 < (R.length : Int) + 1 := by omega
        obtain ⟨t, ht⟩ : ∃ t, R[j]? = some t := ⟨_, List.getElem?_eq_getElem hjR⟩
        have cW := HC.out (j + 1) (by omega)
        have hts := HLen.out t (List.mem_cons.2 (.inr (List.mem_of_getElem? ht)))
        have HTt := Lib.hid ht
        simp only [List.map_cons, List.getElem?_cons_succ, List.getElem?_map, ht, Option.map_some] at cW
        unfold strV at cW
        replace cW := cell_low cW BW.out
        clear ht
        go_wp2_with fail
        refine (rnumber_any ⟨t.toArray⟩ wr (by rw [sz_list]; omega)).mono ?_
        rintro ev w2 ⟨rfl, he⟩
        rw [show (⟨t.toArray⟩ : ByteArray).data.toList = t from rfl] at he
        cases hn : numL t with
        | some v =>
          rw [hn] at he
          simp only at he
          subst he
          have HOk2 := Lib.hid (HOk.out.good HTt.out hn)
          clear hn
          cases okb with
          | true =>
            go_wp2_with (at_builtin; refine heldW ?_)
            unfold HeldW
            refine app_src rfl (.tmp 53) (.tmp 56) 25 rfl wc.heap.size 50 _ 1 8 Tryz.underlying25 infoFate rfl (by omega) _ fl.length _ rfl (ST3.out.alloc _) _ 1 [Value.int .i64 v] rfl (src8 _ _ _) (by simp [Value.oneCell']) (by omega) (by omega) (by have := BW.out.size; simp; omega) ?_
            intro v3 W3 ho3 hg3 hor3
            have O3 := Lib.hid ho3
            have G3 := Lib.hid hg3
            obtain ⟨A3, c3, rfl, _⟩ := own_slice ho3
            clear ho3 hg3 hor3
            have p3 := blk_grown_own st1 ST3.out (by decide) G3.out
            have b3 := Lib.hid (own_keep_ty ST2.out ST3.out (by decide) G3.out)
            have L3 := Lib.hid ((BW.out.alloc BW.out.size _).grown G3.out (by have := BW.out.size; simp; omega) (fun k hk => (ST3.out.lt k hk).1))
            have x5' := p3.cell (i := 5) rfl
            have xf5 := p3.free 5
            clear x5 xf
            go_wp2
            go_roundg (gk - 1)
            case measure => omega
            case rel =>
              exact ⟨j + 1, true, fl ++ [v], rfl, by go_num, by omega, (by have := HFl.out; simp; omega), StAt.set (y := fatS 10 fl) (y' := fatS 10 (fl ++ [v])) (j := 5) (v := .slice A3 (fl.length + 1) c3) p3 b3.out (by have h := O3.out; simpa [fatS] using h) rfl, bel_put L3.out (by omega) _ _, HOk2.out⟩
          | false =>
            go_wp2_with (at_builtin; refine heldW ?_)
            unfold HeldW
            refine app_src rfl (.tmp 53) (.tmp 56) 25 rfl wc.heap.size 50 _ 1 8 Tryz.underlying25 infoFate rfl (by omega) _ fl.length _ rfl (ST3.out.alloc _) _ 1 [Value.int .i64 v] rfl (src8 _ _ _) (by simp [Value.oneCell']) (by omega) (by omega) (by have := BW.out.size; simp; omega) ?_
            intro v3 W3 ho3 hg3 hor3
            have O3 := Lib.hid ho3
            have G3 := Lib.hid hg3
            obtain ⟨A3, c3, rfl, _⟩ := own_slice ho3
            clear ho3 hg3 hor3
            have p3 := blk_grown_own st1 ST3.out (by decide) G3.out
            have b3 := Lib.hid (own_keep_ty ST2.out ST3.out (by decide) G3.out)
            have L3 := Lib.hid ((BW.out.alloc BW.out.size _).grown G3.out (by have := BW.out.size; simp; omega) (fun k hk => (ST3.out.lt k hk).1))
            have x5' := p3.cell (i := 5) rfl
            have xf5 := p3.free 5
            clear x5 xf
            go_wp2
            go_roundg (gk - 1)
            case measure => omega
            case rel =>
              exact ⟨j + 1, false, fl ++ [v], rfl, by go_num, by omega, (by have := HFl.out; simp; omega), StAt.set (y := fatS 10 fl) (y' := fatS 10 (fl ++ [v])) (j := 5) (v := .slice A3 (fl.length + 1) c3) p3 b3.out (by have h := O3.out; simpa [fatS] using h) rfl, bel_put L3.out (by omega) _ _, HOk2.out⟩
        | none =>
          rw [hn] at he
          simp only at he
          obtain ⟨v, rfl⟩ := he
          have HOk2 := Lib.hid (HOk.out.bad HTt.out hn (fl ++ [v]))
          clear hn
          cases okb with
          | true =>
            go_wp2_with (at_builtin; refine heldW ?_)
            unfold HeldW
            refine app_src rfl (.tmp 53) (.tmp 56) 25 rfl wc.heap.size 50 _ 1 8 Tryz.underlying25 infoFate rfl (by omega) _ fl.length _ rfl (ST3.out.alloc _) _ 1 [Value.int .i64 v] rfl (src8 _ _ _) (by simp [Value.oneCell']) (by omega) (by omega) (by have := BW.out.size; simp; omega) ?_
            intro v3 W3 ho3 hg3 hor3
            have O3 := Lib.hid ho3
            have G3 := Lib.hid hg3
            obtain ⟨A3, c3, rfl, _⟩ := own_slice ho3
            clear ho3 hg3 hor3
            have p3 := blk_grown_own st1 ST3.out (by decide) G3.out
            have b3 := Lib.hid (own_keep_ty ST2.out ST3.out (by decide) G3.out)
            have L3 := Lib.hid ((BW.out.alloc BW.out.size _).grown G3.out (by have := BW.out.size; simp; omega) (fun k hk => (ST3.out.lt k hk).1))
            have x5' := p3.cell (i := 5) rfl
            have xf5 := p3.free 5
            clear x5 xf
            go_wp2
            go_roundg (gk - 1)
            case measure => omega
            case rel =>
              exact ⟨j + 1, false, fl ++ [v], rfl, by go_num, by omega, (by have := HFl.out; simp; omega), StAt.set (y := fatS 10 fl) (y' := fatS 10 (fl ++ [v])) (j := 5) (v := .slice A3 (fl.length + 1) c3) p3 b3.out (by have h := O3.out; simpa [fatS] using h) rfl, bel_put L3.out (by omega) _ _, HOk2.out⟩
          | false =>
            go_wp2_with (at_builtin; refine heldW ?_)
            unfold HeldW
            refine app_src rfl (.tmp 53) (.tmp 56) 25 rfl wc.heap.size 50 _ 1 8 Tryz.underlying25 infoFate rfl (by omega) _ fl.length _ rfl (ST3.out.alloc _) _ 1 [Value.int .i64 v] rfl (src8 _ _ _) (by simp [Value.oneCell']) (by omega) (by omega) (by have := BW.out.size; simp; omega) ?_
            intro v3 W3 ho3 hg3 hor3
            have O3 := Lib.hid ho3
            have G3 := Lib.hid hg3
            obtain ⟨A3, c3, rfl, _⟩ := own_slice ho3
            clear ho3 hg3 hor3
            have p3 := blk_grown_own st1 ST3.out (by decide) G3.out
            have b3 := Lib.hid (own_keep_ty ST2.out ST3.out (by decide) G3.out)
            have L3 := Lib.hid ((BW.out.alloc BW.out.size _).grown G3.out (by have := BW.out.size; simp; omega) (fun k hk => (ST3.out.lt k hk).1))
            have x5' := p3.cell (i := 5) rfl
            have xf5 := p3.free 5
            clear x5 xf
            go_wp2
            go_roundg (gk - 1)
            case measure => omega
            case rel =>
              exact ⟨j + 1, false, fl ++ [v], rfl, by go_num, by omega, (by have := HFl.out; simp; omega), StAt.set (y := fatS 10 fl) (y' := fatS 10 (fl ++ [v])) (j := 5) (v := .slice A3 (fl.length + 1) c3) p3 b3.out (by have h := O3.out; simpa [fatS] using h) rfl, bel_put L3.out (by omega) _ _, HOk2.out⟩
      · have hjI : ¬ (j : Int) + 1 < (R.length : Int) + 1 := by omega
        obtain rfl : j = R.length := by omega
        have KY := Lib.hid (Kb.out.below BW.out Kb.out.lt)
        have MW := Lib.hid (below_chain Lb.out BW.out)
        cases okb with
        | true =>
          have HRr := Lib.hid (show stepL s.data.toList = some (fatS 10 fl) by rw [HL.out, HR.out, HOk.out.end_]; rfl)
          have x0 := st1.cell (i := 0) rfl
          have x1 := st1.cell (i := 1) rfl
          have x2 := st1.cell (i := 2) rfl
          have x3 := st1.cell (i := 3) rfl
          have x4 := st1.cell (i := 4) rfl
          have HB2 := Lib.hid (own_base8 ST2.out Lb.out.size)
          have HF2 := Lib.hid (own_base8 ST3.out Lb.out.size)
          unfold stepVs zeroS at KY
          have y0 := KY.out.cell (i := 0) rfl
          have z0 := KY.out.free 0
          have y1 := KY.out.cell (i := 1) rfl
          have z1 := KY.out.free 1
          have y2 := KY.out.cell (i := 2) rfl
          have z2 := KY.out.free 2
          have y3 := KY.out.cell (i := 3) rfl
          have z3 := KY.out.free 3
          have y4 := KY.out.cell (i := 4) rfl
          have z4 := KY.out.free 4
          have y5 := KY.out.cell (i := 5) rfl
          have z5 := KY.out.free 5
          go_wp2
          have S6 := six_facts KY.out (.int .u8 10) (.int .i64 0) (.int .i64 0) (.int .i64 0) (.slice BA 0 bc) (.slice FA fl.length fc)
          refine bodyPost_ret (results_blk_tmp rfl _ w.heap.size rfl _ _ S6.1 _ Tryz.underlying27 rfl 6 infoStep rfl) rfl ?_
          refine ⟨S6.2.1 _ _ MW.out (Nat.le_refl _), ?_⟩
          rw [HRr.out]
          exact ⟨_, _, _, _, rfl, S6.2.2 _ _ _ _ _ _ HB2.out (by decide), S6.2.2 _ _ _ _ _ _ HF2.out (by decide)⟩
        | false =>
          have HRr := Lib.hid (show stepL s.data.toList = none by rw [HL.out, HR.out, HOk.out.end_]; rfl)
          unfold stepVs zeroS at KY
          have y0 := KY.out.cell (i := 0) rfl
          have z0 := KY.out.free 0
          have y1 := KY.out.cell (i := 1) rfl
          have z1 := KY.out.free 1
          have y2 := KY.out.cell (i := 2) rfl
          have z2 := KY.out.free 2
          have y3 := KY.out.cell (i := 3) rfl
          have z3 := KY.out.free 3
          have y4 := KY.out.cell (i := 4) rfl
          have z4 := KY.out.free 4
          have y5 := KY.out.cell (i := 5) rfl
          have z5 := KY.out.free 5
          go_wp2
          have S6 := six_facts KY.out (.int .u8 0) (.int .i64 0) (.int .i64 0) (.int .i64 0) (.slice none 0 0) (.slice none 0 0)
          refine bodyPost_ret (results_blk_tmp rfl _ w.heap.size rfl _ _ S6.1 _ Tryz.underlying27 rfl 6 infoStep rfl) rfl ?_
          refine ⟨S6.2.1 _ _ MW.out (Nat.le_refl _), ?_⟩
          rw [HRr.out]
          rfl
    -- )A
  · have e1 : (fs == [102]) = false := by simpa using hff
    have hk10 : kn ≠ 10 := fun h => hff (HF.out.2.2.2.2.1 (by omega))
    have h102 : 102 ∉ fs := HF.out.2.2.2.2.2 (by omega)
    by_cases hk0 : kn = 0
    · have e0 : ((kn : Int) != 0) = false := by simp [hk0]
      have HR := Lib.hid (show readL W0 R = none by rw [HRd.out, if_pos (by omega)])
      clear hff HRd HF hk0
      -- B(
      go_wp2_with fail
      have hwd := HWC.out.out
      unfold stepVs zeroS at hwd
      simp only at hwd
      rw [← hwd]
      clear hwd
      go_wp2
      go_loopg [8, 12] 0 (fun _ okv iv wr => okv = .bool false ∧ iv = .int .i64 0 ∧ wr = wd)
      case atStart => exact ⟨rfl, rfl, rfl⟩
      case round =>
        obtain ⟨rfl, rfl, rfl⟩ := hrel
        have KY := Lib.hid (Kb.out.below Ld.out Kb.out.lt)
        have MW := Lib.hid (below_chain Lb.out Ld.out)
        by_cases hp : (0 : Int) < (fs.length : Int)
        ·
          unfold stepVs zeroS at KY
          have y0 := KY.out.cell (i := 0) rfl
          have z0 := KY.out.free 0
          have y1 := KY.out.cell (i := 1) rfl
          have z1 := KY.out.free 1
          have y2 := KY.out.cell (i := 2) rfl
          have z2 := KY.out.free 2
          have y3 := KY.out.cell (i := 3) rfl
          have z3 := KY.out.free 3
          have y4 := KY.out.cell (i := 4) rfl
          have z4 := KY.out.free 4
          have y5 := KY.out.cell (i := 5) rfl
          have z5 := KY.out.free 5
          go_wp2
          have S6 := six_facts KY.out (.int .u8 0) (.int .i64 0) (.int .i64 0) (.int .i64 0) (.slice none 0 0) (.slice none 0 0)
          refine bodyPost_ret (results_blk_tmp rfl _ w.heap.size rfl _ _ S6.1 _ Tryz.underlying27 rfl 6 infoStep rfl) rfl ?_
          refine ⟨S6.2.1 _ _ MW.out (Nat.le_refl _), ?_⟩
          rw [HL.out, HR.out]
          rfl
        ·
          unfold stepVs zeroS at KY
          have y0 := KY.out.cell (i := 0) rfl
          have z0 := KY.out.free 0
          have y1 := KY.out.cell (i := 1) rfl
          have z1 := KY.out.free 1
          have y2 := KY.out.cell (i := 2) rfl
          have z2 := KY.out.free 2
          have y3 := KY.out.cell (i := 3) rfl
          have z3 := KY.out.free 3
          have y4 := KY.out.cell (i := 4) rfl
          have z4 := KY.out.free 4
          have y5 := KY.out.cell (i := 5) rfl
          have z5 := KY.out.free 5
          go_wp2
          have S6 := six_facts KY.out (.int .u8 0) (.int .i64 0) (.int .i64 0) (.int .i64 0) (.slice none 0 0) (.slice none 0 0)
          refine bodyPost_ret (results_blk_tmp rfl _ w.heap.size rfl _ _ S6.1 _ Tryz.underlying27 rfl 6 infoStep rfl) rfl ?_
          refine ⟨S6.2.1 _ _ MW.out (Nat.le_refl _), ?_⟩
          rw [HL.out, HR.out]
          rfl
      -- )B
    · have e0 : ((kn : Int) != 0) = true := by simp; omega
      by_cases hlen : R.length = fs.length
      · have elen : ((R.length : Int) + 1 == (fs.length : Int) + 1) = true := by rw [hlen]; simp
        have HR := Lib.hid (show readL W0 R = followX fs 0 R (zeroS kn) by rw [HRd.out, if_neg (by omega), if_neg (by omega)])
        have HLl := Lib.hid hlen
        clear hff HRd hlen
        go_wp2_with fail
        have hwd := HWC.out.out
        unfold stepVs zeroS at hwd
        simp only at hwd
        rw [← hwd]
        clear hwd
        go_loopg [8, 12] fs.length (RdI2 fs R (zeroS kn) wc.heap.size wc)
        case atStart => exact ⟨0, true, rfl, rfl, by omega, by omega, Ld.out, .inl ⟨rfl, zeroS kn, ⟨_, _, Kd.out, World.ownsRow_nil _ _ _ _, World.ownsRow_nil _ _ _ _⟩, rfl⟩⟩
        case round =>
          obtain ⟨i, okb, rfl, rfl, hi, hik, hbw, hcase⟩ := hrel
          have BW := Lib.hid hbw
          clear hbw
          have KY := Lib.hid (Kb.out.below BW.out Kb.out.lt)
          have MW := Lib.hid (below_chain Lb.out BW.out)
          rcases hcase with ⟨rfl, y, hst, hfx⟩ | ⟨rfl, hno⟩
          · have HFx := Lib.hid (show stepL s.data.toList = followX (fs.drop i) i R y by rw [HL.out, HR.out, hfx])
            have HFy := Lib.hid hfx
            clear hfx
            by_cases hlt : i < fs.length
            · -- C(
              have hltI : (i : Int) < (fs.length : Int) := by omega
              obtain ⟨f, hfi, hfm, hdr⟩ := get_fs hlt
              obtain ⟨hh, hbf⟩ := ba_fs hfi
              have hv := HF.out.2.2.2.1 f hfm
              have HDr := Lib.hid hdr
              have hiw : i < R.length := by have := HLl.out; omega
              have hiwI : (i : Int) + 1 < (R.length : Int) + 1 := by omega
              obtain ⟨t, ht⟩ : ∃ t, R[i]? = some t := ⟨_, List.getElem?_eq_getElem hiw⟩
              have cW := HC.out (i + 1) (by omega)
              have hts := HLen.out t (List.mem_cons.2 (.inr (List.mem_of_getElem? ht)))
              have HTi := Lib.hid ht
              simp only [List.map_cons, List.getElem?_cons_succ, List.getElem?_map, ht, Option.map_some] at cW
              unfold strV at cW
              replace cW := cell_low cW BW.out
              obtain ⟨B, F, st1, st2, st3⟩ := hst
              have ST2 := Lib.hid st2
              have ST3 := Lib.hid st3
              have hn102 : f ≠ 102 := fun h => h102 (by rw [← h]; exact hfm)
              clear st2 st3 ht hdr hfi hfm h102
              rcases hv with hfv | hfv | hfv | hfv | hfv
              · have hf97 : (f.toNat : Int) = 97 := by rw [hfv]; rfl
                have HFX := Lib.hid (show fieldX f i R y = (numL t).map fun v => { y with pos := v } by unfold fieldX; rw [if_neg (by rw [hfv]; decide), HTi.out]; unfold fieldL; simp [hfv])
                clear hfv
                go_wp2_with fail
                refine (rnumber_any ⟨t.toArray⟩ wr (by rw [sz_list]; omega)).mono ?_
                rintro ev w2 ⟨rfl, he⟩
                rw [show (⟨t.toArray⟩ : ByteArray).data.toList = t from rfl] at he
                have xf := st1.free 1
                have xc := st1.cell (i := 1) rfl
                cases hnv : numL t with
                | some v =>
                  rw [hnv] at he HFX
                  simp only at he
                  subst he
                  have HN := Lib.hid (show followX fs 0 R (zeroS kn) = followX (fs.drop (i + 1)) (i + 1) R { y with pos := v } by rw [HFy.out, HDr.out, followX, HFX.out]; rfl)
                  clear hnv
                  go_wp2
                  go_roundg (gk - 1)
                  case measure => omega
                  case rel =>
                    exact ⟨i + 1, true, rfl, by go_num, by omega, by omega, bel_put BW.out (Nat.le_refl _) _ _, .inl ⟨rfl, { y with pos := v }, StAt.num (y := y) (j := 1) (v := .int .i64 v) st1 ST2.out ST3.out rfl rfl rfl, HN.out⟩⟩
                | none =>
                  rw [hnv] at he HFX
                  simp only at he
                  obtain ⟨v, rfl⟩ := he
                  have HN := Lib.hid (show followX fs 0 R (zeroS kn) = none by rw [HFy.out, HDr.out, followX, HFX.out]; rfl)
                  clear hnv
                  go_wp2
                  go_roundg (gk - 1)
                  case measure => omega
                  case rel =>
                    exact ⟨i + 1, false, rfl, by go_num, by omega, by omega, bel_put BW.out (Nat.le_refl _) _ _, .inr ⟨rfl, HN.out⟩⟩
              · have hf97 : (f.toNat : Int) = 110 := by rw [hfv]; rfl
                have HFX := Lib.hid (show fieldX f i R y = (numL t).map fun v => { y with n := v } by unfold fieldX; rw [if_neg (by rw [hfv]; decide), HTi.out]; unfold fieldL; simp [hfv])
                clear hfv
                go_wp2_with fail
                refine (rnumber_any ⟨t.toArray⟩ wr (by rw [sz_list]; omega)).mono ?_
                rintro ev w2 ⟨rfl, he⟩
                rw [show (⟨t.toArray⟩ : ByteArray).data.toList = t from rfl] at he
                have xf := st1.free 2
                have xc := st1.cell (i := 2) rfl
                cases hnv : numL t with
                | some v =>
                  rw [hnv] at he HFX
                  simp only at he
                  subst he
                  have HN := Lib.hid (show followX fs 0 R (zeroS kn) = followX (fs.drop (i + 1)) (i + 1) R { y with n := v } by rw [HFy.out, HDr.out, followX, HFX.out]; rfl)
                  clear hnv
                  go_wp2
                  go_roundg (gk - 1)
                  case measure => omega
                  case rel =>
                    exact ⟨i + 1, true, rfl, by go_num, by omega, by omega, bel_put BW.out (Nat.le_refl _) _ _, .inl ⟨rfl, { y with n := v }, StAt.num (y := y) (j := 2) (v := .int .i64 v) st1 ST2.out ST3.out rfl rfl rfl, HN.out⟩⟩
                | none =>
                  rw [hnv] at he HFX
                  simp only at he
                  obtain ⟨v, rfl⟩ := he
                  have HN := Lib.hid (show followX fs 0 R (zeroS kn) = none by rw [HFy.out, HDr.out, followX, HFX.out]; rfl)
                  clear hnv
                  go_wp2
                  go_roundg (gk - 1)
                  case measure => omega
                  case rel =>
                    exact ⟨i + 1, false, rfl, by go_num, by omega, by omega, bel_put BW.out (Nat.le_refl _) _ _, .inr ⟨rfl, HN.out⟩⟩
              · have hf97 : (f.toNat : Int) = 115 := by rw [hfv]; rfl
                have HFX := Lib.hid (show fieldX f i R y = (numL t).map fun v => { y with snap := v } by unfold fieldX; rw [if_neg (by rw [hfv]; decide), HTi.out]; unfold fieldL; simp [hfv])
                clear hfv
                go_wp2_with fail
                refine (rnumber_any ⟨t.toArray⟩ wr (by rw [sz_list]; omega)).mono ?_
                rintro ev w2 ⟨rfl, he⟩
                rw [show (⟨t.toArray⟩ : ByteArray).data.toList = t from rfl] at he
                have xf := st1.free 3
                have xc := st1.cell (i := 3) rfl
                cases hnv : numL t with
                | some v =>
                  rw [hnv] at he HFX
                  simp only at he
                  subst he
                  have HN := Lib.hid (show followX fs 0 R (zeroS kn) = followX (fs.drop (i + 1)) (i + 1) R { y with snap := v } by rw [HFy.out, HDr.out, followX, HFX.out]; rfl)
                  clear hnv
                  go_wp2
                  go_roundg (gk - 1)
                  case measure => omega
                  case rel =>
                    exact ⟨i + 1, true, rfl, by go_num, by omega, by omega, bel_put BW.out (Nat.le_refl _) _ _, .inl ⟨rfl, { y with snap := v }, StAt.num (y := y) (j := 3) (v := .int .i64 v) st1 ST2.out ST3.out rfl rfl rfl, HN.out⟩⟩
                | none =>
                  rw [hnv] at he HFX
                  simp only at he
                  obtain ⟨v, rfl⟩ := he
                  have HN := Lib.hid (show followX fs 0 R (zeroS kn) = none by rw [HFy.out, HDr.out, followX, HFX.out]; rfl)
                  clear hnv
                  go_wp2
                  go_roundg (gk - 1)
                  case measure => omega
                  case rel =>
                    exact ⟨i + 1, false, rfl, by go_num, by omega, by omega, bel_put BW.out (Nat.le_refl _) _ _, .inr ⟨rfl, HN.out⟩⟩
              · have hf97 : (f.toNat : Int) = 98 := by rw [hfv]; rfl
                have HFX := Lib.hid (show fieldX f i R y = (unhexL t).map fun b => { y with bytes := b } by unfold fieldX; rw [if_neg (by rw [hfv]; decide), HTi.out]; unfold fieldL; simp [hfv])
                clear hfv
                go_wp2_with fail
                refine (rnumber_any ⟨t.toArray⟩ wr (by rw [sz_list]; omega)).mono ?_
                rintro ev w2 ⟨rfl, he⟩
                obtain ⟨v, b, rfl⟩ : ∃ v b, ev = .returned (.tuple #[.int .i64 v, .bool b]) := by
                  revert he
                  cases numL (⟨t.toArray⟩ : ByteArray).data.toList with
                  | some v => exact fun he => ⟨v, true, he⟩
                  | none => rintro ⟨v, he⟩; exact ⟨v, false, he⟩
                clear he
                go_wp2_with fail
                refine (rhex_any ⟨t.toArray⟩ w2 (by rw [sz_list]; omega)).mono ?_
                rintro ev w3 ⟨hb3, he⟩
                rw [show (⟨t.toArray⟩ : ByteArray).data.toList = t from rfl] at he
                have st3 := st1.below hb3 st1.lt
                have BW3 := Lib.hid (below_chain BW.out hb3)
                have SF3 := Lib.hid (own_lo8 ST3.out hb3)
                have xf := st3.free 4
                have xc := st3.cell (i := 4) rfl
                cases hnv : unhexL t with
                | some o =>
                  rw [hnv] at he HFX
                  simp only at he
                  obtain ⟨A, c, rfl, ho⟩ := he
                  have HO := Lib.hid (own_base8 ho BW.out.size)
                  have HN := Lib.hid (show followX fs 0 R (zeroS kn) = followX (fs.drop (i + 1)) (i + 1) R { y with bytes := o } by rw [HFy.out, HDr.out, followX, HFX.out]; rfl)
                  clear hnv ho
                  go_wp2
                  go_roundg (gk - 1)
                  case measure => omega
                  case rel =>
                    exact ⟨i + 1, true, rfl, by go_num, by omega, by omega, bel_put BW3.out (Nat.le_refl _) _ _, .inl ⟨rfl, { y with bytes := o }, StAt.set (y := y) (y' := { y with bytes := o }) (j := 4) (v := .slice A o.length c) st3 HO.out SF3.out rfl, HN.out⟩⟩
                | none =>
                  rw [hnv] at he HFX
                  simp only at he
                  obtain ⟨A, n, c, rfl⟩ := he
                  have HN := Lib.hid (show followX fs 0 R (zeroS kn) = none by rw [HFy.out, HDr.out, followX, HFX.out]; rfl)
                  clear hnv
                  go_wp2
                  go_roundg (gk - 1)
                  case measure => omega
                  case rel =>
                    exact ⟨i + 1, false, rfl, by go_num, by omega, by omega, bel_put BW3.out (Nat.le_refl _) _ _, .inr ⟨rfl, HN.out⟩⟩
              · exact absurd hfv hn102
              -- )C
            · -- D(
              have hltI : ¬ (i : Int) < (fs.length : Int) := by omega
              have HRr := Lib.hid (show stepL s.data.toList = some y by rw [HFx.out, List.drop_eq_nil_of_le (by omega)]; rfl)
              obtain ⟨B, F, st1, st2, st3⟩ := hst
              obtain ⟨BA, bc, rfl, _⟩ := own_slice st2
              obtain ⟨FA, fc, rfl, _⟩ := own_slice st3
              have x0 := st1.cell (i := 0) rfl
              have x1 := st1.cell (i := 1) rfl
              have x2 := st1.cell (i := 2) rfl
              have x3 := st1.cell (i := 3) rfl
              have x4 := st1.cell (i := 4) rfl
              have x5 := st1.cell (i := 5) rfl
              have HB2 := Lib.hid (own_base8 st2 Lb.out.size)
              have HF2 := Lib.hid (own_base8 st3 Lb.out.size)
              clear st2 st3
              unfold stepVs zeroS at KY
              have y0 := KY.out.cell (i := 0) rfl
              have z0 := KY.out.free 0
              have y1 := KY.out.cell (i := 1) rfl
              have z1 := KY.out.free 1
              have y2 := KY.out.cell (i := 2) rfl
              have z2 := KY.out.free 2
              have y3 := KY.out.cell (i := 3) rfl
              have z3 := KY.out.free 3
              have y4 := KY.out.cell (i := 4) rfl
              have z4 := KY.out.free 4
              have y5 := KY.out.cell (i := 5) rfl
              have z5 := KY.out.free 5
              go_wp2
              have S6 := six_facts KY.out (.int .u8 y.kind) (.int .i64 y.pos) (.int .i64 y.n) (.int .i64 y.snap) (.slice BA y.bytes.length bc) (.slice FA y.fates.length fc)
              refine bodyPost_ret (results_blk_tmp rfl _ w.heap.size rfl _ _ S6.1 _ Tryz.underlying27 rfl 6 infoStep rfl) rfl ?_
              refine ⟨S6.2.1 _ _ MW.out (Nat.le_refl _), ?_⟩
              rw [HRr.out]
              exact ⟨_, _, _, _, rfl, S6.2.2 _ _ _ _ _ _ HB2.out (by decide), S6.2.2 _ _ _ _ _ _ HF2.out (by decide)⟩
              -- )D
          · -- D(
            have HRr := Lib.hid (show stepL s.data.toList = none by rw [HL.out, HR.out, hno])
            clear hno
            by_cases hp : (i : Int) < (fs.length : Int)
            ·
              unfold stepVs zeroS at KY
              have y0 := KY.out.cell (i := 0) rfl
              have z0 := KY.out.free 0
              have y1 := KY.out.cell (i := 1) rfl
              have z1 := KY.out.free 1
              have y2 := KY.out.cell (i := 2) rfl
              have z2 := KY.out.free 2
              have y3 := KY.out.cell (i := 3) rfl
              have z3 := KY.out.free 3
              have y4 := KY.out.cell (i := 4) rfl
              have z4 := KY.out.free 4
              have y5 := KY.out.cell (i := 5) rfl
              have z5 := KY.out.free 5
              go_wp2
              have S6 := six_facts KY.out (.int .u8 0) (.int .i64 0) (.int .i64 0) (.int .i64 0) (.slice none 0 0) (.slice none 0 0)
              refine bodyPost_ret (results_blk_tmp rfl _ w.heap.size rfl _ _ S6.1 _ Tryz.underlying27 rfl 6 infoStep rfl) rfl ?_
              refine ⟨S6.2.1 _ _ MW.out (Nat.le_refl _), ?_⟩
              rw [HRr.out]
              rfl
            ·
              unfold stepVs zeroS at KY
              have y0 := KY.out.cell (i := 0) rfl
              have z0 := KY.out.free 0
              have y1 := KY.out.cell (i := 1) rfl
              have z1 := KY.out.free 1
              have y2 := KY.out.cell (i := 2) rfl
              have z2 := KY.out.free 2
              have y3 := KY.out.cell (i := 3) rfl
              have z3 := KY.out.free 3
              have y4 := KY.out.cell (i := 4) rfl
              have z4 := KY.out.free 4
              have y5 := KY.out.cell (i := 5) rfl
              have z5 := KY.out.free 5
              go_wp2
              have S6 := six_facts KY.out (.int .u8 0) (.int .i64 0) (.int .i64 0) (.int .i64 0) (.slice none 0 0) (.slice none 0 0)
              refine bodyPost_ret (results_blk_tmp rfl _ w.heap.size rfl _ _ S6.1 _ Tryz.underlying27 rfl 6 infoStep rfl) rfl ?_
              refine ⟨S6.2.1 _ _ MW.out (Nat.le_refl _), ?_⟩
              rw [HRr.out]
              rfl
            -- )D
      · have elen : ((R.length : Int) + 1 == (fs.length : Int) + 1) = false := by simp; omega
        have HR := Lib.hid (show readL W0 R = none by rw [HRd.out, if_neg (by omega), if_pos ⟨by omega, hlen⟩])
        clear hff HRd HF hlen
        -- B(
        go_wp2_with fail
        have hwd := HWC.out.out
        unfold stepVs zeroS at hwd
        simp only at hwd
        rw [← hwd]
        clear hwd
        go_wp2
        go_loopg [8, 12] 0 (fun _ okv iv wr => okv = .bool false ∧ iv = .int .i64 0 ∧ wr = wd)
        case atStart => exact ⟨rfl, rfl, rfl⟩
        case round =>
          obtain ⟨rfl, rfl, rfl⟩ := hrel
          have KY := Lib.hid (Kb.out.below Ld.out Kb.out.lt)
          have MW := Lib.hid (below_chain Lb.out Ld.out)
          by_cases hp : (0 : Int) < (fs.length : Int)
          ·
            unfold stepVs zeroS at KY
            have y0 := KY.out.cell (i := 0) rfl
            have z0 := KY.out.free 0
            have y1 := KY.out.cell (i := 1) rfl
            have z1 := KY.out.free 1
            have y2 := KY.out.cell (i := 2) rfl
            have z2 := KY.out.free 2
            have y3 := KY.out.cell (i := 3) rfl
            have z3 := KY.out.free 3
            have y4 := KY.out.cell (i := 4) rfl
            have z4 := KY.out.free 4
            have y5 := KY.out.cell (i := 5) rfl
            have z5 := KY.out.free 5
            go_wp2
            have S6 := six_facts KY.out (.int .u8 0) (.int .i64 0) (.int .i64 0) (.int .i64 0) (.slice none 0 0) (.slice none 0 0)
            refine bodyPost_ret (results_blk_tmp rfl _ w.heap.size rfl _ _ S6.1 _ Tryz.underlying27 rfl 6 infoStep rfl) rfl ?_
            refine ⟨S6.2.1 _ _ MW.out (Nat.le_refl _), ?_⟩
            rw [HL.out, HR.out]
            rfl
          ·
            unfold stepVs zeroS at KY
            have y0 := KY.out.cell (i := 0) rfl
            have z0 := KY.out.free 0
            have y1 := KY.out.cell (i := 1) rfl
            have z1 := KY.out.free 1
            have y2 := KY.out.cell (i := 2) rfl
            have z2 := KY.out.free 2
            have y3 := KY.out.cell (i := 3) rfl
            have z3 := KY.out.free 3
            have y4 := KY.out.cell (i := 4) rfl
            have z4 := KY.out.free 4
            have y5 := KY.out.cell (i := 5) rfl
            have z5 := KY.out.free 5
            go_wp2
            have S6 := six_facts KY.out (.int .u8 0) (.int .i64 0) (.int .i64 0) (.int .i64 0) (.slice none 0 0) (.slice none 0 0)
            refine bodyPost_ret (results_blk_tmp rfl _ w.heap.size rfl _ _ S6.1 _ Tryz.underlying27 rfl 6 infoStep rfl) rfl ?_
            refine ⟨S6.2.1 _ _ MW.out (Nat.le_refl _), ?_⟩
            rw [HL.out, HR.out]
            rfl
        -- )B
end Go.Proofs.YtfehgpjnlkgekaaGreatDoor
