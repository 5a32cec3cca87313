/-
  The document's tree, made and read.
-/
import Derived.Test.YtacidmamfkfipaaDoorRefStr
import Derived.Test.YtacidmamfkfipaaDoorTreePlain
import Derived.Test.YtacidmamfkfipaaDoorRef04
namespace Go.Proofs.YtacidmamfkfipaaDoor
open Go.RowKit Go.Maps
set_option linter.unusedVariables false

def TreeOk (w : World) (b : Nat) (zs : List Int) : Prop := ∃ n D, w.ownsMap Tryd.prog 3 (plainElem (H := Unit) Tryd.prog 3) b n D ∧ TreeD zs zs.length D
theorem TreeOk.below {w w' : World} {b : Nat} {zs : List Int} (h : TreeOk w b zs) (hb : Below w.heap.size w w') : TreeOk w' b zs := by
  obtain ⟨n, D, h1, h2⟩ := h
  exact ⟨n, D, h1.kept (row := none) ⟨hb.os, hb.tape, hb.output, hb.size, fun k hk _ => hb.block k hk⟩ (by simp), h2⟩
theorem TreeOk.step {w w' : World} {base s b : Nat} {zs : List Int} (h : TreeOk w b zs) (hst : StStep w w' base s s) (hs : ∃ cs, Blk w s 64 cs) : TreeOk w' b zs := by
  obtain ⟨n, D, ⟨es, cl, h1, h3⟩, h2⟩ := h
  refine ⟨n, D, ⟨es, cl, ?_, h3⟩, h2⟩
  have hlt : b < w.heap.size := by
    rcases Nat.lt_or_ge b w.heap.size with hlt | hge
    · exact hlt
    · rw [Array.getElem?_eq_none hge] at h1; cases h1
  have hne : b ≠ s := by
    rintro rfl
    obtain ⟨cs, hs⟩ := hs
    unfold Blk at hs
    rw [h1] at hs
    cases hs
  exact (hst.typ b hlt (fun cs f e => by rw [h1] at e; cases e) hne hne).trans h1

def MadePost (zs : List Int) (w : World) (ev : Ending) (w' : World) : Prop :=
  ∃ b, ev = .returned (.tuple #[.agg #[.map (some b)], .bool (countsOk zs)]) ∧ w.heap.size ≤ b ∧ (countsOk zs = true → TreeOk w' b zs) ∧ Below w.heap.size w w'
theorem law_int : Keyed Tryd.prog 3 := int_keyed Tryd.underlying3
theorem zero_int (w : World) : (zeroValue 3).run Tryd.prog w = .ok (.int .i64 0) w := by kernel_rfl
theorem infoTree : (Tryd.prog.info? 117).map (·.size) = some 1 := by kernel_rfl
def MadeI (zs : List Int) (n gm : Nat) (w2 : World) (k : Nat) (iv : Value) (wr : World) : Prop :=
  ∃ i : Nat, i + k = n ∧ iv = .int .i64 (i : Int) ∧ (∃ m D, m ≤ i ∧ wr.ownsMap Tryd.prog 3 (plainElem (H := Unit) Tryd.prog 3) gm m D ∧ TreeD zs i D) ∧ Below gm w2 wr ∧ Blk wr (gm + 1) 117 #[.map (some gm)]
def MadeE (w3 : World) (k : Nat) (iv : Value) (wr : World) : Prop := iv = .int .i64 0 ∧ wr = w3
theorem mapKey_num (l : Nat) (c : Int) (hl : l ≤ 15) (hc0 : 0 ≤ c) (hc : c < 2 ^ l) : IntKind.i64.wrap (IntKind.i64.wrap (2 ^ min (IntKind.u64.wrap (l : Int)).toNat 64) + c) = 2 ^ l + c := by
  rw [IntWalk.u64_in _ (by omega), Int.toNat_natCast, Nat.min_eq_left (by omega)]
  have hp : (2 : Int) ^ l ≤ 32768 := by
    have : 2 ^ l ≤ 2 ^ 15 := Nat.pow_le_pow_right (by omega) (by omega)
    have h2 : ((2 ^ l : Nat) : Int) ≤ ((2 ^ 15 : Nat) : Int) := by exact_mod_cast this
    simpa using h2
  rw [IntWalk.i64_in ((2 : Int) ^ l) (by omega), IntWalk.i64_in _ (by omega)]
set_option maxHeartbeats 1600000 in
theorem made_any (zs : List Int) (A : Option Addr) (n cap : Nat) (w : World) (hr : RdI .i64 w A n zs) (hn : n ≤ 1000) :
    Calls Tryd.prog 61 #[.slice A n cap] w (MadePost zs w) := by
  have HR := Lib.hid hr
  have hmm := @run_makeMap Tryd.prog
  clear hr
  go_enter Tryd.func61, Tryd.ntmps61
  go_wp2_with fail
  obtain ⟨w1, hw1⟩ : ∃ w1, w1 = w.alloc (.cells #[.map none] 117) := ⟨_, rfl⟩
  rw [← hw1]
  have L1 := Lib.hid (show Below w.heap.size w w1 by rw [hw1]; exact (Below.refl _ _).alloc (Nat.le_refl _) _)
  have K1 := Lib.hid (show Blk w1 w.heap.size 117 #[.map none] by rw [hw1]; exact Blk.made _ _ _)
  clear hw1
  refine (rcodes_any zs A n cap w1 (HR.out.below L1.out) (by omega)).mono ?_
  rintro ev w2 (⟨hok, rfl, hb2⟩ | ⟨hok, Ac, cc, rfl, ho2, hb2⟩)
  · have L2 := Lib.hid (below_chain L1.out hb2)
    have K2 := Lib.hid (K1.out.below hb2 K1.out.lt)
    clear hb2 K1 L1
    have hlt2 := K2.out.lt
    go_wp2
    obtain ⟨w3, hw3⟩ : ∃ w3, w3 = (w2.alloc (.map #[] 0)).alloc (.cells #[.map (some w2.heap.size)] 117) := ⟨_, rfl⟩
    rw [← hw3]
    have LL := Lib.hid (show Below w2.heap.size w2 w3 by rw [hw3]; exact ((Below.refl _ _).alloc (Nat.le_refl _) _).alloc (by simp) _)
    have K6 := Lib.hid (show Blk w3 (w2.heap.size + 1) 117 #[.map (some w2.heap.size)] by rw [hw3]; exact Blk.made_at _ _ _ (by simp))
    have K3 := Lib.hid (K2.out.below LL.out hlt2)
    clear hw3
    go_loopg [7] 0 (MadeE w3)
    case atStart => exact ⟨rfl, rfl⟩
    case round =>
      obtain ⟨rfl, rfl⟩ := hrel
      have c6 := K6.out.cell (i := 0) rfl
      have c2 := K3.out.cell (i := 0) rfl
      have f2 := K3.out.free 0
      go_wp2
      have B4 := K3.out.put 0 (.map (some w2.heap.size))
      refine bodyPost_ret (results_blk_tmp rfl _ w.heap.size rfl _ _ B4 _ Tryd.underlying117 rfl 1 infoTree rfl) rfl ?_
      refine ⟨w2.heap.size, by rw [hok]; rfl, by omega, (fun h => by rw [hok] at h; cases h), ?_⟩
      exact (below_chain L2.out LL.out).setCell (Nat.le_refl _) _
  · have L2 := Lib.hid (below_chain L1.out hb2)
    have K2 := Lib.hid (K1.out.below hb2 K1.out.lt)
    have C2 := Lib.hid (RdI.of_own ho2)
    have R2 := Lib.hid ((HR.out.below L1.out).below hb2)
    have hzl : zs.length = n := HR.out.1
    have HZl := Lib.hid hzl
    clear hb2 K1 L1 ho2 hzl
    have hlt2 := K2.out.lt
    go_wp2
    obtain ⟨w3, hw3⟩ : ∃ w3, w3 = (w2.alloc (.map #[] 0)).alloc (.cells #[.map (some w2.heap.size)] 117) := ⟨_, rfl⟩
    rw [← hw3]
    have LL := Lib.hid (show Below w2.heap.size w2 w3 by rw [hw3]; exact ((Below.refl _ _).alloc (Nat.le_refl _) _).alloc (by simp) _)
    have K6 := Lib.hid (show Blk w3 (w2.heap.size + 1) 117 #[.map (some w2.heap.size)] by rw [hw3]; exact Blk.made_at _ _ _ (by simp))
    have M3 := Lib.hid (show w3.ownsMap Tryd.prog 3 (plainElem (H := Unit) Tryd.prog 3) w2.heap.size 0 (.map []) by rw [hw3]; exact (World.ownsMap_made w2 _ _ _).alloc _)
    clear hw3
    go_loopg [7] n (MadeI zs n w2.heap.size w2)
    case atStart => exact ⟨0, by omega, rfl, ⟨0, _, Nat.le_refl _, M3.out, tree_zero zs⟩, LL.out, K6.out⟩
    case round =>
      clear M3 K6 LL
      obtain ⟨i, hi, rfl, ⟨m, D, hm, hmap, htree⟩, hb, hk6⟩ := hrel
      have MP := Lib.hid hmap
      have TD := Lib.hid htree
      have B := Lib.hid hb
      have K6 := Lib.hid hk6
      have c6 := hk6.cell (i := 0) rfl
      have K3 := Lib.hid (K2.out.below hb hlt2)
      have hwr := K6.out.lt
      clear hmap htree hb hk6
      by_cases hlt : i < n
      · have hltI : (i : Int) < n := by omega
        have hzl : zs.length = n := HZl.out
        have hzb := okLen_of hok (k := i) (by omega)
        obtain ⟨bz, oz, hAz, hbz, hcz⟩ := R2.out.2 (by omega)
        have cz := (World.cell?_of_block (a := ⟨bz, oz + i, none⟩) (B.out.block bz hbz)).trans (hcz i hlt)
        subst hAz
        clear hcz
        by_cases hz : 0 < zs.getD i 0
        · obtain ⟨l, hl⟩ : ∃ l : Nat, zs.getD i 0 = (l : Int) := ⟨(zs.getD i 0).toNat, by omega⟩
          have hcode := code_lt hok (s := i) (n := l) (by omega) (by omega) (by omega) hl
          obtain ⟨bc, oc, hAc, hbc, hcc⟩ := C2.out.2 (by omega)
          have cc' := (World.cell?_of_block (a := ⟨bc, oc + i, none⟩) (B.out.block bc hbc)).trans (hcc i hlt)
          have hcd : (codesOf zs).getD i 0 = codeAt zs i := by simp [codesOf, hzl, hlt]
          rw [hcd] at cc'
          subst hAc
          have HTP := Lib.hid (tree_put (m := i) (l0 := l) TD.out (by omega) hl hcode.1 hcode.2)
          have HMK := Lib.hid (mapKey_num l (codeAt zs i) (by omega) hcode.1 hcode.2)
          have hpw : (2 : Int) ^ l ≤ 32768 := by
            have : 2 ^ l ≤ 2 ^ 15 := Nat.pow_le_pow_right (by omega) (by omega)
            have h2 : ((2 ^ l : Nat) : Int) ≤ ((2 ^ 15 : Nat) : Int) := by exact_mod_cast this
            simpa using h2
          rw [hl] at cz hzb hz
          have HWF := Lib.hid (show (Lit.int .i64 (2 ^ l + codeAt zs i)).wf = true from WalkArith.wf_i64 (by omega))
          generalize codeAt zs i = cd at *
          clear hcc hcd hl hzl
          go_wp2
          refine wp_region_qs (fun j w' => j ≤ 0 → w'.cell? ⟨w2.heap.size + 1, 0, none⟩ = some (.map (some w2.heap.size)) ∧ w'.cell? ⟨bz, oz + i, none⟩ = some (.int .i64 (l : Int)) ∧ w'.cell? ⟨bc, oc + i, none⟩ = some (.int .i64 cd)) [(0, some 0), (1, some 0), (2, some 0), (3, some 0), (4, some 0), (5, some 0), (6, some 0), (7, some 0), (8, some 0), (9, some 0), (10, some 0), (11, some 0), (12, some 0), (13, some 0), (14, none)] (by kernel_rfl) (by kernel_rfl) (by kernel_rfl) (by kernel_rfl) (by kernel_rfl) (fun _ _ _ _ _ h => h) (fun _ => ⟨c6, cz, cc'⟩) ?_
          simp only [List.map_cons, List.map_nil, List.getD_cons_succ, List.getD_cons_zero]
          (repeat (first | (refine qs_now (v := ?_) (by rfl) ?_ ?_; rotate_left 1; (· (intro w' hS; go_simp; (try (simp only [↓IntWalk.iteOmega]; go_simp)); (try simp (disch := omega) only [IntWalk.i64_in]); try with_reducible rfl)); simp only [Act.put, List.setIfInBounds_toArray, List.set_cons_zero, List.set_cons_succ]) | (refine qs_run (v := ?_) (by rfl) ?_ ?_; rotate_left 1; (· (intro j w' hS; go_simp; (try (simp only [↓IntWalk.iteOmega]; go_simp)); (try simp (disch := omega) only [IntWalk.i64_in]); try with_reducible rfl)); simp only [Act.put, List.setIfInBounds_toArray, List.set_cons_zero, List.set_cons_succ]) | (refine qs_skip (by rfl) ?_; simp only [Act.put, List.setIfInBounds_toArray, List.set_cons_zero, List.set_cons_succ])))
          rw [HMK.out]
          refine qs_act ?_
          refine wpList_mapUpdate_own _ rfl _ _ _ 115 rfl 3 3 law_int Tryd.underlying115 _ w2.heap.size m D rfl MP.out.drew (by unfold maxLen; omega) _ _ _ rfl rfl (keyOf_int_mk Tryd.underlying3 HWF.out) _ [] (plainElem_int Tryd.underlying3 (WalkArith.wf_i64 (by omega))) ?_
          intro w5 hm5 hg5
          have M5 := Lib.hid hm5
          have G5 := Lib.hid hg5
          clear hm5 hg5
          refine wpList_nil ?_
          refine ⟨fun h => absurd h (by omega), ?_⟩
          refine qs_nil ?_
          go_wp2
          go_roundg (gk - 1)
          case measure => omega
          case rel =>
            have hB5 : Below w2.heap.size w2 w5 := (B.out.drew).grown G5.out (by have := B.out.size; simp; omega) (fun k hk => by injection hk with hk; omega)
            exact ⟨i + 1, by omega, by go_num, ⟨m + 1, _, by omega, M5.out, HTP.out⟩, hB5, K6.out.drew.grown G5.out (fun e => by injection e with e; omega)⟩
        · have HTP := Lib.hid (tree_pass TD.out (by omega))
          have hz' : ¬ 0 < zs.getD i 0 := hz
          generalize zs.getD i 0 = z at *
          clear hzl
          go_wp2
          go_roundg (gk - 1)
          case measure => omega
          case rel => exact ⟨i + 1, by omega, by go_num, ⟨m, D, by omega, MP.out, HTP.out⟩, B.out, K6.out⟩
      · obtain rfl : i = n := by omega
        have c2 := K3.out.cell (i := 0) rfl
        have f2 := K3.out.free 0
        go_wp2
        have B4 := K3.out.put 0 (.map (some w2.heap.size))
        refine bodyPost_ret (results_blk_tmp rfl _ w.heap.size rfl _ _ B4 _ Tryd.underlying117 rfl 1 infoTree rfl) rfl ?_
        have L4 : Below w.heap.size w wr := L2.out.trans (B.out.mono (by have := L2.out.size; omega))
        refine ⟨w2.heap.size, by rw [hok]; rfl, by omega, fun _ => ⟨m, D, MP.out.kept (grown_put _ _ _) (fun e => by injection e with e; exact absurd e (by simp; omega)), by rw [HZl.out]; exact TD.out⟩, ?_⟩
        exact L4.setCell (Nat.le_refl _) _
end Go.Proofs.YtacidmamfkfipaaDoor
