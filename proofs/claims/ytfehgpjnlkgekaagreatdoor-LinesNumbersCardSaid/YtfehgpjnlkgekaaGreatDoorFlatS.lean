/-
  peatbankkit's bags: rows of steps that lie apart are found so. (printed by genflat.py)
-/
import Derived.Test.YtfehgpjnlkgekaaGreatDoorFlatG
import Derived.Test.YtfehgpjnlkgekaaGreatDoorFlatM
import Derived.Test.YtfehgpjnlkgekaaGreatDoorLnSame
namespace Go.Proofs.YtfehgpjnlkgekaaGreatDoor
open Go.RowKit
set_option linter.unusedVariables false
set_option linter.unusedSimpArgs false

theorem lmkS (k i : Nat) : (mkS k i).length = 6 := rfl
theorem oneS (k i : Nat) : ∀ y ∈ mkS k i, y.oneCell' = true := by simp [mkS, Value.oneCell']
theorem onesS (k m : Nat) : ∀ y ∈ mksG mkS k m, y.oneCell' = true := by
  intro y hy
  simp only [mksG, List.mem_flatMap] at hy
  obtain ⟨i, _, h⟩ := hy
  exact oneS k i y h
theorem srcS (w : World) (t : TypeId) (cs : Array Value) (hcs : cs.size = 6 := by rfl) : Src (w.alloc (Obj.cells cs t)) 6 (.slice (some ⟨w.heap.size, 0, none⟩) 1 1) 1 cs.toList := by
  refine ⟨_, _, rfl, by simpa using hcs, fun _ => ⟨_, 0, rfl, by simp, fun j y hy => ?_⟩⟩
  rw [Nat.zero_add]
  exact (Blk.made w t cs).cell (by simpa using hy)
theorem same_mark (y : Int) (w : World) : Calls Tryz.prog 8 #[.agg #[.int .u8 0, .int .i64 y, .int .i64 0, .int .i64 0, .slice none 0 0, .slice none 0 0], .agg #[.int .u8 0, .int .i64 y, .int .i64 0, .int .i64 0, .slice none 0 0, .slice none 0 0]] w fun e w' => e = .returned (.bool true) ∧ Below w.heap.size w w' := by
  have h : StRd w (.agg #[.int .u8 0, .int .i64 y, .int .i64 0, .int .i64 0, .slice none 0 0, .slice none 0 0]) ⟨0, y, 0, 0, [], []⟩ := ⟨none, 0, none, 0, rfl, ⟨rfl, fun h => absurd h (by simp)⟩, ⟨rfl, fun h => absurd h (by simp)⟩⟩
  refine (same_step ⟨0, y, 0, 0, [], []⟩ ⟨0, y, 0, 0, [], []⟩ _ _ w h h (by simp) (by simp) (by simp) (by simp)).mono ?_
  rintro e w' ⟨rfl, hb⟩
  exact ⟨by rw [(eqS_iff _ _).2 rfl], hb⟩
theorem mk_steps {w : World} {ops : Array Oper} {rest : List Oper} {o : Oper} {a : Act} {Q : Exit → Act → World → Prop} (hg : o.guard = none) (l c : Operand) (hop : o.op = Op.makeSlice 33 l c) (base n : Nat) (L C : Int) (hl : a.eval l = .int .i64 L) (hc : a.eval c = .int .i64 C) (hL : L = (n : Int)) (hC : C = (n : Int)) (hn : n ≤ 1000) (hb : base ≤ w.heap.size)
    (hK : ∀ w', w'.ownsRow base 27 6 (.slice (some ⟨w.heap.size, 0, none⟩) n n) n (madeCells (Value.agg #[.int .u8 0, .int .i64 0, .int .i64 0, .int .i64 0, .slice none 0 0, .slice none 0 0]).cells (n * 6)).toList → w.grownBy w' none → wpList Tryz.prog ops Q rest (a.put o.dst (.slice (some ⟨w.heap.size, 0, none⟩) n n)) w') : wpList Tryz.prog ops Q (o :: rest) a w := by
  obtain ⟨i0, hi, hz0, hz1, hz2⟩ := info_parts infoStepZ
  exact wpList_make_full w hg l c _ hop base 27 i0 _ 6 Tryz.underlying33 hi hz0 hz1 .i64 .i64 L C n hl hc hL hC (by rw [hz2]; omega) (by unfold maxLen; omega) hb hK

theorem FamG.turnS {w w' : World} {base K : Nat} {V : Nat → Value} {n : Nat → Nat} {X : Nat → List Value} (h : FamG 27 6 w base K V n X) (hA : Apt K V V) {k g : Nat} {X' : List Value} (hk : k < K) (hV : (V k).ownBlock = some g) (hg : w.grownBy w' (some g)) (ho : w'.ownsRow base 27 6 (V k) (n k) X') :
    FamG 27 6 w' base K V n (updV X k X') := fun j hj => by
  by_cases hjk : j = k
  · subst hjk
    rw [updV_same]
    exact ho
  · rw [updV_else _ _ _ hjk]
    exact own_keptG (h j hj) hg (fun b hb => by
      injection hb with hb
      subst hb
      exact hA k j hk hj (fun e => hjk e.symm) _ hV)
theorem mk_rowsS {w : World} {ops : Array Oper} {rest : List Oper} {o : Oper} {a : Act} {Q : Exit → Act → World → Prop} (hg : o.guard = none) (l c : Operand) (hop : o.op = Op.makeSlice 34 l c) (n : Nat) (L C : Int) (hl : a.eval l = .int .i64 L) (hc : a.eval c = .int .i64 C) (hL : L = (n : Int)) (hC : C = (n : Int)) (hn : n ≤ 1000)
    (hK : ∀ w', LAtG 33 w' w.heap.size n (fun _ => .slice none 0 0) → w.grownBy w' none → wpList Tryz.prog ops Q rest (a.put o.dst (.slice (some ⟨w.heap.size, 0, none⟩) n n)) w') : wpList Tryz.prog ops Q (o :: rest) a w := by
  obtain ⟨i0, hi, hz0, hz1, hz2⟩ := info_parts infoRowS
  refine wpList_make_full w hg l c _ hop 0 33 i0 _ 1 Tryz.underlying34 hi hz0 hz1 .i64 .i64 L C n hl hc hL hC (by rw [hz2]; omega) (by unfold maxLen; omega) (Nat.zero_le _) (fun w' h1 h2 => hK w' ?_ h2)
  have e : (madeCells (Value.slice none 0 0).cells (n * 1)).toList = List.replicate n (.slice none 0 0) := by rw [Nat.mul_one]; exact toList_madeCells_one _ _
  rw [e] at h1
  rcases h1.2 with ⟨h0, _⟩ | ⟨g', cap, cur, hv, hb, hg, hnc, hcm, hcs, ht⟩
  · cases h0
  · injection hv with a1 a2 a3
    injection a1 with a1
    injection a1 with a1
    subst a1
    refine ⟨cur, hg, fun k hk => ?_⟩
    have h3 : (cur.toList.take (n * 1))[k]? = (List.replicate n (Value.slice none 0 0))[k]? := by rw [ht]
    rw [List.getElem?_take_of_lt (by omega), List.getElem?_replicate, if_pos hk] at h3
    simpa using h3
theorem hRES : 33 ≠ 27 := by decide
set_option maxHeartbeats 1600000 in
set_option maxRecDepth 100000 in
theorem flatSteps_any (w : World) (base L K c : Nat) (V : Nat → Value) (n : Nat → Nat) (X : Nat → List Value) (hL : LAtG 33 w L K V) (hF : FamG 27 6 w base K V n X) (hA : Apt K V V) (hK : K ≤ 1000) (hn : ∀ k, k < K → n k ≤ 1000000000) (hb : base ≤ w.heap.size) :
    Calls Tryz.prog 64 #[.slice (some ⟨L, 0, none⟩) K c] w fun e w' => e = .returned (.bool true) ∧ BelG 27 base w w' := by
  have HL := Lib.hid hL
  have HF := Lib.hid hF
  have HA := Lib.hid hA
  have HN := Lib.hid hn
  clear hL hF hA hn
  go_enter Tryz.func64, Tryz.ntmps64
  go_wp2
  go_loopg [3] K (Pf1G 27 33 6 mkS w base L K V n)
  case atStart => exact ⟨0, X, by omega, rfl, HF.out, fun j hj => absurd hj (by omega), HL.out, BelG.refl hb⟩
  case round =>
    clear HF HL
    obtain ⟨k, X1, hk, rfl, hf, hx, hl, hb⟩ := hrel
    have F := Lib.hid hf
    have X1D := Lib.hid hx
    have LL := Lib.hid hl
    have B := Lib.hid hb
    clear hf hx hl hb
    by_cases hkK : k < K
    · have hkI : (k : Int) < K := by omega
      have cL := LL.out.cell hkK
      obtain ⟨A, c, hV, _⟩ := own_slice (F.out k hkK)
      rw [hV] at cL
      have HV := Lib.hid hV
      obtain ⟨go, hgo⟩ : ∃ go, go = gk := ⟨_, rfl⟩
      rw [← hgo] at hk
      have hnk := HN.out k hkK
      clear hV
      go_wp2
      go_loopg [4] (n k) (Pf2G 27 33 6 mkS w base L K V n k)
      case atStart => exact ⟨0, X1, by omega, rfl, F.out, X1D.out, by simp [mksG], LL.out, B.out⟩
      case round =>
        clear F X1D LL B cL
        obtain ⟨i, X2, hi, rfl, hf, hx, ht, hl, hb⟩ := hrel
        have F := Lib.hid hf
        have X2D := Lib.hid hx
        have X2T := Lib.hid ht
        have LL := Lib.hid hl
        have B := Lib.hid hb
        have cL := LL.out.cell hkK
        rw [HV.out] at cL
        clear hf hx ht hl hb
        by_cases hik : i < n k
        · have hikI : (i : Int) < (n k : Int) := by omega
          have hok := F.out k hkK
          rw [HV.out] at hok
          obtain ⟨g, cc, hv, hbg, hlt2⟩ := hok.form (by omega)
          injection hv with hv hv2 hv3
          subst hv hv3
          have MK := Lib.hid (fun wz => markStep_any k i wz (by have := hnk; omega) (by have := hnk; omega))
          obtain ⟨y, hy⟩ : ∃ y, y = mfv (k : Int) (i : Int) := ⟨_, rfl⟩
          have HY := Lib.hid hy
          rw [← hy] at MK
          have OK := Lib.hid hok
          clear hy hok
          go_wp2
          refine wp_region_qs (fun jj w' => w'.cell? ⟨L, k, none⟩ = some (.slice (some ⟨g, 0, none⟩) (n k) c)) [(0, some 1), (1, some 1), (2, some 1), (3, some 1), (4, some 1), (5, some 0), (6, some 0), (7, none), (8, some 1), (9, none)] (by kernel_rfl) (by kernel_rfl) (by kernel_rfl) (by kernel_rfl) (by kernel_rfl) (fun _ _ _ _ _ h => h) cL ?_
          simp only [List.map_cons, List.map_nil, List.getD_cons_succ, List.getD_cons_zero]
          (repeat (first | (refine qs_now (v := ?_) (by rfl) ?_ ?_; rotate_left 1; (· (intro w' hS; go_simp; (try (simp only [↓IntWalk.iteOmega]; go_simp)); (try simp (disch := omega) only [IntWalk.i64_in]); try with_reducible rfl)); simp only [Act.put, List.setIfInBounds_toArray, List.set_cons_zero, List.set_cons_succ]) | (refine qs_run (v := ?_) (by rfl) ?_ ?_; rotate_left 1; (· (intro j w' hS; go_simp; (try (simp only [↓IntWalk.iteOmega]; go_simp)); (try simp (disch := omega) only [IntWalk.i64_in]); try with_reducible rfl)); simp only [Act.put, List.setIfInBounds_toArray, List.set_cons_zero, List.set_cons_succ]) | (refine qs_skip (by rfl) ?_; simp only [Act.put, List.setIfInBounds_toArray, List.set_cons_zero, List.set_cons_succ])))
          refine qs_act ?_
          go_wp2_with fail
          refine (MK.out _).mono ?_
          rintro ev w2 ⟨rfl, hb2⟩
          have cL2 := cell_low cL (show Below wr.heap.size wr w2 from (Below.refl _ _).drew.trans hb2)
          have OK2 := Lib.hid (own_belowG OK.out (show Below wr.heap.size wr w2 from (Below.refl _ _).drew.trans hb2))
          have LL2 := Lib.hid (LL.out.below (show Below wr.heap.size wr w2 from (Below.refl _ _).drew.trans hb2))
          have F2 := Lib.hid (F.out.below (show Below wr.heap.size wr w2 from (Below.refl _ _).drew.trans hb2))
          have B2 := Lib.hid (B.out.below (show Below wr.heap.size wr w2 from (Below.refl _ _).drew.trans hb2))
          clear hb2
          go_wp2
          refine ⟨cL2, ?_⟩
          (repeat (first | (refine qs_now (v := ?_) (by rfl) ?_ ?_; rotate_left 1; (· (intro w' hS; go_simp; (try (simp only [↓IntWalk.iteOmega]; go_simp)); (try simp (disch := omega) only [IntWalk.i64_in]); try with_reducible rfl)); simp only [Act.put, List.setIfInBounds_toArray, List.set_cons_zero, List.set_cons_succ]) | (refine qs_run (v := ?_) (by rfl) ?_ ?_; rotate_left 1; (· (intro j w' hS; go_simp; (try (simp only [↓IntWalk.iteOmega]; go_simp)); (try simp (disch := omega) only [IntWalk.i64_in]); try with_reducible rfl)); simp only [Act.put, List.setIfInBounds_toArray, List.set_cons_zero, List.set_cons_succ]) | (refine qs_skip (by rfl) ?_; simp only [Act.put, List.setIfInBounds_toArray, List.set_cons_zero, List.set_cons_succ])))
          refine qs_act ?_
          have HMK := Lib.hid (show mkS k i = [.int .u8 0, .int .i64 y, .int .i64 0, .int .i64 0, .slice none 0 0, .slice none 0 0] by unfold mkS; rw [HY.out])
          refine wpl_store_el rfl 27 (.tmp 39) (.tmp 38) rfl base g i (n k) c 6 27 #[.int .u8 0, .int .i64 y, .int .i64 0, .int .i64 0, .slice none 0 0, .slice none 0 0] rfl rfl _ OK2.out hik rfl infoStep (by simp [Value.oneCell']) ?_
          intro w3 XN on gn hxn
          have ON := Lib.hid on
          have GN := Lib.hid gn
          have HXN := Lib.hid hxn
          clear on gn hxn
          go_wp2
          have hne : some g ≠ some L := fun e => by
            injection e with e
            exact LL.out.ne hRES (F.out k hkK) (by rw [HV.out, ← e]; rfl)
          have cL3 := (LL2.out.kept GN.out hne).cell hkK
          rw [HV.out] at cL3
          refine ⟨cL3, ?_⟩
          refine qs_nil ?_
          go_wp2
          go_roundg (gk - 1)
          case measure => omega
          case rel =>
            refine ⟨i + 1, updV X2 k XN, by omega, by go_num, F2.out.turnS HA.out hkK (by rw [HV.out]; rfl) GN.out (by rw [HV.out]; exact ON.out), fun j hj => by rw [updV_else X2 k _ (show j ≠ k by omega)]; exact X2D.out j hj, ?_, LL2.out.kept GN.out (fun e => by
                injection e with e
                exact LL.out.ne hRES (F.out k hkK) (by rw [HV.out, ← e]; rfl)), B2.out.turn (F2.out k hkK) (by rw [HV.out]; rfl) GN.out⟩
            rw [updV_same, HXN.out, mksG_succ, X2T.out, HMK.out]
        · obtain rfl : i = n k := by omega
          have hX : X2 k = mksG mkS k (n k) := by
            have := X2T.out
            rwa [List.take_of_length_le (by have := (F.out k hkK).1; omega)] at this
          have HX := Lib.hid hX
          clear hX
          go_wp2
          go_roundg (go - 1)
          case measure => omega
          case rel => exact ⟨k + 1, X2, by omega, by go_num, F.out, fun j hj => by
            rcases Nat.lt_or_ge j k with h | h
            · exact X2D.out j h
            · obtain rfl : j = k := by omega
              exact HX.out, LL.out, B.out⟩
    · obtain rfl : K = k := by omega
      have F0 := Lib.hid (show FamG 27 6 wr base K V n (fun j => mksG mkS j (n j)) from fun j hj => by have := F.out j hj; rwa [X1D.out j hj] at this)
      clear F X1D
      go_wp2_with (refine mk_rowsS rfl (.tmp 41) (.tmp 41) rfl K _ _ rfl rfl rfl rfl hK ?_; intro w1 hl1 hg1; have G1 := Lib.hid hl1; have N1 := Lib.hid hg1; clear hl1 hg1)
      have HLG : L ≠ wr.heap.size := by have := LL.out.lt; omega
      have S1 := Lib.hid (show StG 27 33 6 mkS w1 base L wr.heap.size K V n (fun j => mksG mkS j (n j + 64)) 0 (fun _ => .slice none 0 0) from
        ⟨F0.out.kept N1.out (fun b hb => by cases hb), LL.out.kept N1.out (fun e => by cases e), G1.out, fun j hj => absurd hj (by omega), fun i j hi hj => absurd hj (by omega), fun i j hi => absurd hi (by omega)⟩)
      have B1 := Lib.hid (B.out.none N1.out)
      obtain ⟨Gb, hGb⟩ : ∃ Gb, Gb = wr.heap.size := ⟨_, rfl⟩
      rw [← hGb] at S1 HLG ⊢
      have hGb2 : w.heap.size ≤ Gb := by have := B.out.1.size; omega
      clear F0 LL B G1 N1 hGb
      -- P3(
      go_loopg [6] K (FGG 27 33 6 mkS w base L Gb K V n (fun j => mksG mkS j (n j + 64)))
      case atStart => exact ⟨0, _, by omega, rfl, S1.out, B1.out⟩
      case round =>
        clear S1 B1
        obtain ⟨k, G, hk, rfl, hs, hb'⟩ := hrel
        have S := Lib.hid hs
        have B := Lib.hid hb'
        clear hs hb'
        by_cases hkK : k < K
        · have hkI : (k : Int) < K := by omega
          have cL := S.out.2.1.cell hkK
          obtain ⟨A, c, hV, _⟩ := own_slice (S.out.1 k hkK)
          rw [hV] at cL
          have HV := Lib.hid hV
          obtain ⟨go, hgo⟩ : ∃ go, go = gk := ⟨_, rfl⟩
          rw [← hgo] at hk
          have hnk := HN.out k hkK
          clear hV
          go_wp2
          go_loopg [7, 8] 64 (Pf4G 27 33 6 mkS w base L Gb K V n (fun j => mksG mkS j (n j + 64)) k G)
          case atStart =>
            have hst := GvG.start S.out hkK HA.out
            have ho := S.out.1 k hkK
            rw [HV.out] at hst ho
            exact ⟨0, by omega, rfl, S.out, hst, ho, B.out⟩
          case round =>
            clear S B cL
            obtain ⟨i, hi, rfl, hs, hgv, ho, hb'⟩ := hrel
            have S := Lib.hid hs
            have GV := Lib.hid hgv
            have O := Lib.hid ho
            have B := Lib.hid hb'
            have cL := S.out.2.1.cell hkK
            rw [HV.out] at cL
            clear hs hgv ho hb'
            by_cases hik : i < 64
            · have hikI : (i : Int) < 64 := by omega
              have hsum := Lib.hid (show (n k : Int) + (i : Int) = ((n k + i : Nat) : Int) by omega)
              have MK := Lib.hid (fun wz => markStep_any k ((n k + i : Nat) : Int) wz (by omega) (by omega))
              go_wp2_with (go_at_call 103; refine heldW ?_)
              unfold HeldW
              rw [hsum.out]
              refine (MK.out _).mono ?_
              rintro ev w2 ⟨rfl, hb2⟩
              have S2 := Lib.hid (S.out.below hb2)
              have O2 := Lib.hid (own_belowG O.out hb2)
              have B2 := Lib.hid (B.out.below hb2)
              clear hb2 S O B
              go_wp2_with (refine app_fineG rfl (.tmp 57) (.tmp 67) 33 rfl base 27 _ 6 80 (by decide) Tryz.underlying33 infoStepZ rfl _ (n k + i) _ rfl (O2.out.alloc _) _ 1 (mkS k (n k + i)) rfl (srcS _ _ _) (oneS _ _) (by omega) (by omega) (by omega) (by have := B2.out.le; simp; omega) ?_; intro v3 w3 ho3 hf3; have O3 := Lib.hid ho3; have FN3 := Lib.hid hf3; clear ho3 hf3)
              have hst := StG.app hRES (S2.out.below ((Below.refl _ _).alloc (Nat.le_refl _) _)) hkK GV.out (O2.out.alloc _) (by omega) (mksG_take lmkS _ _ _ (by omega)) O3.out FN3.out
              have SS := Lib.hid hst
              have B3 := Lib.hid (BelG.app (B2.out.below ((Below.refl _ _).alloc (Nat.le_refl _) _)) (O2.out.alloc _) FN3.out)
              clear hst
              go_roundg (gk - 1)
              case measure => omega
              case rel =>
                refine ⟨i + 1, by omega, by go_num, SS.out.1, SS.out.2, ?_, B3.out⟩
                rw [show n k + (i + 1) = n k + i + 1 from rfl, mksG_succ]
                exact O3.out
            · obtain rfl : i = 64 := by omega
              obtain ⟨A3, c3, hv3, _⟩ := own_slice O.out
              subst hv3
              have hG := S.out.2.2.1.cell hkK
              have fG := S.out.2.2.1.free k
              go_wp2
              go_roundg (go - 1)
              case measure => omega
              case rel =>
                exact ⟨k + 1, updV G k _, by omega, by go_num, S.out.lay hRES hkK GV.out O.out HLG, B.out.putNew hGb2 _ _⟩
        · obtain rfl : K = k := by omega
          obtain ⟨w3, hw3⟩ : ∃ w3, w3 = wr := ⟨_, rfl⟩
          rw [← hw3] at S B ⊢
          clear hw3
          -- P4(
          go_wp2
          go_loopg [9] K (ROG K w3)
          case atStart => exact ⟨0, by omega, rfl, Below.refl _ _⟩
          case round =>
            obtain ⟨k, hk, rfl, hbr⟩ := hrel
            have SR := Lib.hid (S.out.below hbr)
            have HBR := Lib.hid hbr
            clear hbr
            by_cases hkK : k < K
            · have hkI : (k : Int) < K := by omega
              have cG := SR.out.2.2.1.cell hkK
              obtain ⟨A, c, hGk, _⟩ := own_slice (SR.out.2.2.2.1 k hkK)
              rw [hGk] at cG
              have HGk := Lib.hid hGk
              obtain ⟨go, hgo⟩ : ∃ go, go = gk := ⟨_, rfl⟩
              rw [← hgo] at hk
              have hnk := HN.out k hkK
              clear hGk
              go_wp2
              go_loopg [10] (n k + 64) (ROG (n k + 64) w3)
              case atStart => exact ⟨0, by omega, rfl, HBR.out⟩
              case round =>
                clear cG SR HBR
                obtain ⟨i, hi, rfl, hbr⟩ := hrel
                have SR := Lib.hid (S.out.below hbr)
                have HBR := Lib.hid hbr
                clear hbr
                have cG := SR.out.2.2.1.cell hkK
                rw [HGk.out] at cG
                by_cases hik : i < n k + 64
                · have hikI : (i : Int) < (n k : Int) + 64 := by omega
                  have hok := SR.out.2.2.2.1 k hkK
                  rw [HGk.out] at hok
                  obtain ⟨g, cc, hv, hbg, hlt2⟩ := hok.form (show 0 < n k + 64 by omega)
                  injection hv with hv hv2 hv3
                  subst hv hv3
                  have OK := Lib.hid hok
                  have cL := SR.out.2.1.cell hkK
                  obtain ⟨A2, c2, hVk, _⟩ := own_slice (SR.out.1 k hkK)
                  rw [hVk] at cL
                  have HVk := Lib.hid hVk
                  have MK := Lib.hid (fun wz => markStep_any k i wz (by omega) (by omega))
                  clear hok hVk
                  by_cases hin : i < n k
                  · have hinI : (i : Int) < (n k : Int) := by omega
                    have hok2 := SR.out.1 k hkK
                    rw [HVk.out] at hok2
                    obtain ⟨g2, cc2, hv, _, _⟩ := hok2.form (by omega)
                    injection hv with hv hv2 hv3
                    subst hv hv3
                    have OK2 := Lib.hid hok2
                    clear hok2
                    have din : decide ((i : Int) < (n k : Int)) = true := by simpa using hin
                    have din' : decide (i < n k) = true := by simpa using hin
                    obtain ⟨y, hy⟩ : ∃ y, y = mfv (k : Int) (i : Int) := ⟨_, rfl⟩
                    have q0 : wr.cell? ⟨g, i * 6, none⟩ = some (.int .u8 0) := by
                      rw [OK.out.cellAt (i * 6) (by omega), show i * 6 = i * 6 + 0 from rfl, mksG_get lmkS k _ i 0 hik (by omega)]
                      first | rfl | (rw [hy]; rfl)
                    have q1 : wr.cell? ⟨g, i * 6 + 1, none⟩ = some (.int .i64 y) := by
                      rw [OK.out.cellAt (i * 6 + 1) (by omega), mksG_get lmkS k _ i 1 hik (by omega)]
                      first | rfl | (rw [hy]; rfl)
                    have q2 : wr.cell? ⟨g, i * 6 + 2, none⟩ = some (.int .i64 0) := by
                      rw [OK.out.cellAt (i * 6 + 2) (by omega), mksG_get lmkS k _ i 2 hik (by omega)]
                      first | rfl | (rw [hy]; rfl)
                    have q3 : wr.cell? ⟨g, i * 6 + 3, none⟩ = some (.int .i64 0) := by
                      rw [OK.out.cellAt (i * 6 + 3) (by omega), mksG_get lmkS k _ i 3 hik (by omega)]
                      first | rfl | (rw [hy]; rfl)
                    have q4 : wr.cell? ⟨g, i * 6 + 4, none⟩ = some (.slice none 0 0) := by
                      rw [OK.out.cellAt (i * 6 + 4) (by omega), mksG_get lmkS k _ i 4 hik (by omega)]
                      first | rfl | (rw [hy]; rfl)
                    have q5 : wr.cell? ⟨g, i * 6 + 5, none⟩ = some (.slice none 0 0) := by
                      rw [OK.out.cellAt (i * 6 + 5) (by omega), mksG_get lmkS k _ i 5 hik (by omega)]
                      first | rfl | (rw [hy]; rfl)
                    have p0 : wr.cell? ⟨g2, i * 6, none⟩ = some (.int .u8 0) := by
                      rw [OK2.out.cellAt (i * 6) (by omega), show i * 6 = i * 6 + 0 from rfl, mksG_get lmkS k _ i 0 hin (by omega)]
                      first | rfl | (rw [hy]; rfl)
                    have p1 : wr.cell? ⟨g2, i * 6 + 1, none⟩ = some (.int .i64 y) := by
                      rw [OK2.out.cellAt (i * 6 + 1) (by omega), mksG_get lmkS k _ i 1 hin (by omega)]
                      first | rfl | (rw [hy]; rfl)
                    have p2 : wr.cell? ⟨g2, i * 6 + 2, none⟩ = some (.int .i64 0) := by
                      rw [OK2.out.cellAt (i * 6 + 2) (by omega), mksG_get lmkS k _ i 2 hin (by omega)]
                      first | rfl | (rw [hy]; rfl)
                    have p3 : wr.cell? ⟨g2, i * 6 + 3, none⟩ = some (.int .i64 0) := by
                      rw [OK2.out.cellAt (i * 6 + 3) (by omega), mksG_get lmkS k _ i 3 hin (by omega)]
                      first | rfl | (rw [hy]; rfl)
                    have p4 : wr.cell? ⟨g2, i * 6 + 4, none⟩ = some (.slice none 0 0) := by
                      rw [OK2.out.cellAt (i * 6 + 4) (by omega), mksG_get lmkS k _ i 4 hin (by omega)]
                      first | rfl | (rw [hy]; rfl)
                    have p5 : wr.cell? ⟨g2, i * 6 + 5, none⟩ = some (.slice none 0 0) := by
                      rw [OK2.out.cellAt (i * 6 + 5) (by omega), mksG_get lmkS k _ i 5 hin (by omega)]
                      first | rfl | (rw [hy]; rfl)
                    rw [← hy] at MK
                    clear hy
                    go_wp2
                    refine wp_region_qs (fun jj w' => w'.cell? ⟨Gb, k, none⟩ = some (.slice (some ⟨g, 0, none⟩) (n k + 64) c) ∧ w'.cell? ⟨g, i * 6, none⟩ = some (.int .u8 0) ∧ w'.cell? ⟨g, i * 6 + 1, none⟩ = some (.int .i64 y) ∧ w'.cell? ⟨g, i * 6 + 2, none⟩ = some (.int .i64 0) ∧ w'.cell? ⟨g, i * 6 + 3, none⟩ = some (.int .i64 0) ∧ w'.cell? ⟨g, i * 6 + 4, none⟩ = some (.slice none 0 0) ∧ w'.cell? ⟨g, i * 6 + 5, none⟩ = some (.slice none 0 0) ∧ w'.cell? ⟨L, k, none⟩ = some (.slice (some ⟨g2, 0, none⟩) (n k) c2) ∧ w'.cell? ⟨g2, i * 6, none⟩ = some (.int .u8 0) ∧ w'.cell? ⟨g2, i * 6 + 1, none⟩ = some (.int .i64 y) ∧ w'.cell? ⟨g2, i * 6 + 2, none⟩ = some (.int .i64 0) ∧ w'.cell? ⟨g2, i * 6 + 3, none⟩ = some (.int .i64 0) ∧ w'.cell? ⟨g2, i * 6 + 4, none⟩ = some (.slice none 0 0) ∧ w'.cell? ⟨g2, i * 6 + 5, none⟩ = some (.slice none 0 0)) [(0, some 4), (1, some 4), (2, some 4), (3, some 4), (4, some 4), (5, some 4), (6, some 3), (7, some 3), (8, some 3), (9, none), (10, none), (11, some 4), (12, some 4), (13, some 4), (14, some 4), (15, some 4), (16, some 4), (17, some 4), (18, some 4), (19, some 4), (20, some 2), (21, some 4), (22, some 4), (23, some 4), (24, some 4), (25, some 4), (26, some 4), (27, some 3), (28, some 3), (29, some 3), (30, none), (31, none), (32, some 4), (33, some 4), (34, some 4)] (by kernel_rfl) (by kernel_rfl) (by kernel_rfl) (by kernel_rfl) (by kernel_rfl) (fun _ _ _ _ _ h => h) ⟨cG, q0, q1, q2, q3, q4, q5, cL, p0, p1, p2, p3, p4, p5⟩ ?_
                    simp only [List.map_cons, List.map_nil, List.getD_cons_succ, List.getD_cons_zero]
                    (repeat (first | (refine qs_now (v := ?_) (by rfl) ?_ ?_; rotate_left 1; (· (intro w' hS; go_simp; (try (simp only [↓IntWalk.iteOmega]; go_simp)); (try simp (disch := omega) only [IntWalk.i64_in]); try with_reducible rfl)); simp only [Act.put, List.setIfInBounds_toArray, List.set_cons_zero, List.set_cons_succ]) | (refine qs_run (v := ?_) (by rfl) ?_ ?_; rotate_left 1; (· (intro j w' hS; go_simp; (try (simp only [↓IntWalk.iteOmega]; go_simp)); (try simp (disch := omega) only [IntWalk.i64_in]); try with_reducible rfl)); simp only [Act.put, List.setIfInBounds_toArray, List.set_cons_zero, List.set_cons_succ]) | (refine qs_mid (v := ?_) (by rfl) ?_ ?_; rotate_left 1; (· (intro j w' hj1 hj2 hS; go_simp; (try (simp only [↓IntWalk.iteOmega]; go_simp)); (try simp (disch := omega) only [IntWalk.i64_in]); try with_reducible rfl)); simp only [Act.put, List.setIfInBounds_toArray, List.set_cons_zero, List.set_cons_succ]) | (refine qs_skip (by rfl) ?_; simp only [Act.put, List.setIfInBounds_toArray, List.set_cons_zero, List.set_cons_succ])))
                    refine qs_act ?_
                    go_wp2_with fail
                    refine (MK.out _).mono ?_
                    rintro ev w2 ⟨rfl, hb2⟩
                    have hb3 : Below wr.heap.size wr w2 := (Below.refl _ _).drew.trans hb2
                    go_wp2
                    refine ⟨⟨cell_low cG hb3, cell_low q0 hb3, cell_low q1 hb3, cell_low q2 hb3, cell_low q3 hb3, cell_low q4 hb3, cell_low q5 hb3, cell_low cL hb3, cell_low p0 hb3, cell_low p1 hb3, cell_low p2 hb3, cell_low p3 hb3, cell_low p4 hb3, cell_low p5 hb3⟩, ?_⟩
                    (repeat (first | (refine qs_now (v := ?_) (by rfl) ?_ ?_; rotate_left 1; (· (intro w' hS; go_simp; (try (simp only [↓IntWalk.iteOmega]; go_simp)); (try simp (disch := omega) only [IntWalk.i64_in]); try with_reducible rfl)); simp only [Act.put, List.setIfInBounds_toArray, List.set_cons_zero, List.set_cons_succ]) | (refine qs_run (v := ?_) (by rfl) ?_ ?_; rotate_left 1; (· (intro j w' hS; go_simp; (try (simp only [↓IntWalk.iteOmega]; go_simp)); (try simp (disch := omega) only [IntWalk.i64_in]); try with_reducible rfl)); simp only [Act.put, List.setIfInBounds_toArray, List.set_cons_zero, List.set_cons_succ]) | (refine qs_mid (v := ?_) (by rfl) ?_ ?_; rotate_left 1; (· (intro j w' hj1 hj2 hS; go_simp; (try (simp only [↓IntWalk.iteOmega]; go_simp)); (try simp (disch := omega) only [IntWalk.i64_in]); try with_reducible rfl)); simp only [Act.put, List.setIfInBounds_toArray, List.set_cons_zero, List.set_cons_succ]) | (refine qs_skip (by rfl) ?_; simp only [Act.put, List.setIfInBounds_toArray, List.set_cons_zero, List.set_cons_succ])))
                    refine qs_act ?_
                    go_wp2_with fail
                    refine (same_mark y _).mono ?_
                    rintro ev w4 ⟨rfl, hb4⟩
                    have hb5 := below_chain hb3 hb4
                    go_wp2
                    refine ⟨⟨cell_low cG hb5, cell_low q0 hb5, cell_low q1 hb5, cell_low q2 hb5, cell_low q3 hb5, cell_low q4 hb5, cell_low q5 hb5, cell_low cL hb5, cell_low p0 hb5, cell_low p1 hb5, cell_low p2 hb5, cell_low p3 hb5, cell_low p4 hb5, cell_low p5 hb5⟩, ?_⟩
                    (repeat (first | (refine qs_now (v := ?_) (by rfl) ?_ ?_; rotate_left 1; (· (intro w' hS; go_simp; (try (simp only [↓IntWalk.iteOmega]; go_simp)); (try simp (disch := omega) only [IntWalk.i64_in]); try with_reducible rfl)); simp only [Act.put, List.setIfInBounds_toArray, List.set_cons_zero, List.set_cons_succ]) | (refine qs_run (v := ?_) (by rfl) ?_ ?_; rotate_left 1; (· (intro j w' hS; go_simp; (try (simp only [↓IntWalk.iteOmega]; go_simp)); (try simp (disch := omega) only [IntWalk.i64_in]); try with_reducible rfl)); simp only [Act.put, List.setIfInBounds_toArray, List.set_cons_zero, List.set_cons_succ]) | (refine qs_mid (v := ?_) (by rfl) ?_ ?_; rotate_left 1; (· (intro j w' hj1 hj2 hS; go_simp; (try (simp only [↓IntWalk.iteOmega]; go_simp)); (try simp (disch := omega) only [IntWalk.i64_in]); try with_reducible rfl)); simp only [Act.put, List.setIfInBounds_toArray, List.set_cons_zero, List.set_cons_succ]) | (refine qs_skip (by rfl) ?_; simp only [Act.put, List.setIfInBounds_toArray, List.set_cons_zero, List.set_cons_succ])))
                    refine qs_act ?_
                    go_wp2_with fail
                    refine (MK.out _).mono ?_
                    rintro ev w6 ⟨rfl, hb6⟩
                    have hb7 := below_chain hb5 hb6
                    go_wp2
                    refine ⟨⟨cell_low cG hb7, cell_low q0 hb7, cell_low q1 hb7, cell_low q2 hb7, cell_low q3 hb7, cell_low q4 hb7, cell_low q5 hb7, cell_low cL hb7, cell_low p0 hb7, cell_low p1 hb7, cell_low p2 hb7, cell_low p3 hb7, cell_low p4 hb7, cell_low p5 hb7⟩, ?_⟩
                    (repeat (first | (refine qs_now (v := ?_) (by rfl) ?_ ?_; rotate_left 1; (· (intro w' hS; go_simp; (try (simp only [↓IntWalk.iteOmega]; go_simp)); (try simp (disch := omega) only [IntWalk.i64_in]); try with_reducible rfl)); simp only [Act.put, List.setIfInBounds_toArray, List.set_cons_zero, List.set_cons_succ]) | (refine qs_run (v := ?_) (by rfl) ?_ ?_; rotate_left 1; (· (intro j w' hS; go_simp; (try (simp only [↓IntWalk.iteOmega]; go_simp)); (try simp (disch := omega) only [IntWalk.i64_in]); try with_reducible rfl)); simp only [Act.put, List.setIfInBounds_toArray, List.set_cons_zero, List.set_cons_succ]) | (refine qs_mid (v := ?_) (by rfl) ?_ ?_; rotate_left 1; (· (intro j w' hj1 hj2 hS; go_simp; (try (simp only [↓IntWalk.iteOmega]; go_simp)); (try simp (disch := omega) only [IntWalk.i64_in]); try with_reducible rfl)); simp only [Act.put, List.setIfInBounds_toArray, List.set_cons_zero, List.set_cons_succ]) | (refine qs_skip (by rfl) ?_; simp only [Act.put, List.setIfInBounds_toArray, List.set_cons_zero, List.set_cons_succ])))
                    refine qs_act ?_
                    go_wp2_with fail
                    refine (same_mark y _).mono ?_
                    rintro ev w8 ⟨rfl, hb8⟩
                    have hb9 := below_chain hb7 hb8
                    go_wp2
                    refine ⟨⟨cell_low cG hb9, cell_low q0 hb9, cell_low q1 hb9, cell_low q2 hb9, cell_low q3 hb9, cell_low q4 hb9, cell_low q5 hb9, cell_low cL hb9, cell_low p0 hb9, cell_low p1 hb9, cell_low p2 hb9, cell_low p3 hb9, cell_low p4 hb9, cell_low p5 hb9⟩, ?_⟩
                    (repeat (first | (refine qs_now (v := ?_) (by rfl) ?_ ?_; rotate_left 1; (· (intro w' hS; go_simp; (try (simp only [↓IntWalk.iteOmega]; go_simp)); (try simp (disch := omega) only [IntWalk.i64_in]); try with_reducible rfl)); simp only [Act.put, List.setIfInBounds_toArray, List.set_cons_zero, List.set_cons_succ]) | (refine qs_run (v := ?_) (by rfl) ?_ ?_; rotate_left 1; (· (intro j w' hS; go_simp; (try (simp only [↓IntWalk.iteOmega]; go_simp)); (try simp (disch := omega) only [IntWalk.i64_in]); try with_reducible rfl)); simp only [Act.put, List.setIfInBounds_toArray, List.set_cons_zero, List.set_cons_succ]) | (refine qs_mid (v := ?_) (by rfl) ?_ ?_; rotate_left 1; (· (intro j w' hj1 hj2 hS; go_simp; (try (simp only [↓IntWalk.iteOmega]; go_simp)); (try simp (disch := omega) only [IntWalk.i64_in]); try with_reducible rfl)); simp only [Act.put, List.setIfInBounds_toArray, List.set_cons_zero, List.set_cons_succ]) | (refine qs_skip (by rfl) ?_; simp only [Act.put, List.setIfInBounds_toArray, List.set_cons_zero, List.set_cons_succ])))
                    refine qs_nil ?_
                    go_wp2
                    go_roundg (gk - 1)
                    case measure => omega
                    case rel => exact ⟨i + 1, by omega, by go_num, below_chain HBR.out hb9⟩
                  · have hinI : ¬ (i : Int) < (n k : Int) := by omega
                    have din : decide ((i : Int) < (n k : Int)) = false := by simpa using hin
                    have din' : decide (i < n k) = false := by simpa using hin
                    obtain ⟨y, hy⟩ : ∃ y, y = mfv (k : Int) (i : Int) := ⟨_, rfl⟩
                    have q0 : wr.cell? ⟨g, i * 6, none⟩ = some (.int .u8 0) := by
                      rw [OK.out.cellAt (i * 6) (by omega), show i * 6 = i * 6 + 0 from rfl, mksG_get lmkS k _ i 0 hik (by omega)]
                      first | rfl | (rw [hy]; rfl)
                    have q1 : wr.cell? ⟨g, i * 6 + 1, none⟩ = some (.int .i64 y) := by
                      rw [OK.out.cellAt (i * 6 + 1) (by omega), mksG_get lmkS k _ i 1 hik (by omega)]
                      first | rfl | (rw [hy]; rfl)
                    have q2 : wr.cell? ⟨g, i * 6 + 2, none⟩ = some (.int .i64 0) := by
                      rw [OK.out.cellAt (i * 6 + 2) (by omega), mksG_get lmkS k _ i 2 hik (by omega)]
                      first | rfl | (rw [hy]; rfl)
                    have q3 : wr.cell? ⟨g, i * 6 + 3, none⟩ = some (.int .i64 0) := by
                      rw [OK.out.cellAt (i * 6 + 3) (by omega), mksG_get lmkS k _ i 3 hik (by omega)]
                      first | rfl | (rw [hy]; rfl)
                    have q4 : wr.cell? ⟨g, i * 6 + 4, none⟩ = some (.slice none 0 0) := by
                      rw [OK.out.cellAt (i * 6 + 4) (by omega), mksG_get lmkS k _ i 4 hik (by omega)]
                      first | rfl | (rw [hy]; rfl)
                    have q5 : wr.cell? ⟨g, i * 6 + 5, none⟩ = some (.slice none 0 0) := by
                      rw [OK.out.cellAt (i * 6 + 5) (by omega), mksG_get lmkS k _ i 5 hik (by omega)]
                      first | rfl | (rw [hy]; rfl)
                    rw [← hy] at MK
                    clear hy
                    go_wp2
                    refine wp_region_qs (fun jj w' => w'.cell? ⟨Gb, k, none⟩ = some (.slice (some ⟨g, 0, none⟩) (n k + 64) c) ∧ w'.cell? ⟨g, i * 6, none⟩ = some (.int .u8 0) ∧ w'.cell? ⟨g, i * 6 + 1, none⟩ = some (.int .i64 y) ∧ w'.cell? ⟨g, i * 6 + 2, none⟩ = some (.int .i64 0) ∧ w'.cell? ⟨g, i * 6 + 3, none⟩ = some (.int .i64 0) ∧ w'.cell? ⟨g, i * 6 + 4, none⟩ = some (.slice none 0 0) ∧ w'.cell? ⟨g, i * 6 + 5, none⟩ = some (.slice none 0 0) ∧ w'.cell? ⟨L, k, none⟩ = some (.slice A2 (n k) c2)) [(0, some 4), (1, some 4), (2, some 4), (3, some 4), (4, some 4), (5, some 4), (6, some 3), (7, some 3), (8, some 3), (9, none), (10, none), (11, some 4), (12, some 4), (13, some 4), (14, some 4), (15, some 4), (16, some 4), (17, some 4), (18, some 4), (19, some 4), (20, some 2), (21, some 4), (22, some 4), (23, some 4), (24, some 4), (25, some 4), (26, some 4), (27, some 3), (28, some 3), (29, some 3), (30, none), (31, none), (32, some 4), (33, some 4), (34, some 4)] (by kernel_rfl) (by kernel_rfl) (by kernel_rfl) (by kernel_rfl) (by kernel_rfl) (fun _ _ _ _ _ h => h) ⟨cG, q0, q1, q2, q3, q4, q5, cL⟩ ?_
                    simp only [List.map_cons, List.map_nil, List.getD_cons_succ, List.getD_cons_zero]
                    (repeat (first | (refine qs_now (v := ?_) (by rfl) ?_ ?_; rotate_left 1; (· (intro w' hS; go_simp; (try (simp only [↓IntWalk.iteOmega]; go_simp)); (try simp (disch := omega) only [IntWalk.i64_in]); try with_reducible rfl)); simp only [Act.put, List.setIfInBounds_toArray, List.set_cons_zero, List.set_cons_succ]) | (refine qs_run (v := ?_) (by rfl) ?_ ?_; rotate_left 1; (· (intro j w' hS; go_simp; (try (simp only [↓IntWalk.iteOmega]; go_simp)); (try simp (disch := omega) only [IntWalk.i64_in]); try with_reducible rfl)); simp only [Act.put, List.setIfInBounds_toArray, List.set_cons_zero, List.set_cons_succ]) | (refine qs_mid (v := ?_) (by rfl) ?_ ?_; rotate_left 1; (· (intro j w' hj1 hj2 hS; go_simp; (try (simp only [↓IntWalk.iteOmega]; go_simp)); (try simp (disch := omega) only [IntWalk.i64_in]); try with_reducible rfl)); simp only [Act.put, List.setIfInBounds_toArray, List.set_cons_zero, List.set_cons_succ]) | (refine qs_skip (by rfl) ?_; simp only [Act.put, List.setIfInBounds_toArray, List.set_cons_zero, List.set_cons_succ])))
                    refine qs_act ?_
                    go_wp2_with fail
                    refine (MK.out _).mono ?_
                    rintro ev w2 ⟨rfl, hb2⟩
                    have hb3 : Below wr.heap.size wr w2 := (Below.refl _ _).drew.trans hb2
                    go_wp2
                    refine ⟨⟨cell_low cG hb3, cell_low q0 hb3, cell_low q1 hb3, cell_low q2 hb3, cell_low q3 hb3, cell_low q4 hb3, cell_low q5 hb3, cell_low cL hb3⟩, ?_⟩
                    (repeat (first | (refine qs_now (v := ?_) (by rfl) ?_ ?_; rotate_left 1; (· (intro w' hS; go_simp; (try (simp only [↓IntWalk.iteOmega]; go_simp)); (try simp (disch := omega) only [IntWalk.i64_in]); try with_reducible rfl)); simp only [Act.put, List.setIfInBounds_toArray, List.set_cons_zero, List.set_cons_succ]) | (refine qs_run (v := ?_) (by rfl) ?_ ?_; rotate_left 1; (· (intro j w' hS; go_simp; (try (simp only [↓IntWalk.iteOmega]; go_simp)); (try simp (disch := omega) only [IntWalk.i64_in]); try with_reducible rfl)); simp only [Act.put, List.setIfInBounds_toArray, List.set_cons_zero, List.set_cons_succ]) | (refine qs_mid (v := ?_) (by rfl) ?_ ?_; rotate_left 1; (· (intro j w' hj1 hj2 hS; go_simp; (try (simp only [↓IntWalk.iteOmega]; go_simp)); (try simp (disch := omega) only [IntWalk.i64_in]); try with_reducible rfl)); simp only [Act.put, List.setIfInBounds_toArray, List.set_cons_zero, List.set_cons_succ]) | (refine qs_skip (by rfl) ?_; simp only [Act.put, List.setIfInBounds_toArray, List.set_cons_zero, List.set_cons_succ])))
                    refine qs_act ?_
                    go_wp2_with fail
                    refine (same_mark y _).mono ?_
                    rintro ev w4 ⟨rfl, hb4⟩
                    have hb5 := below_chain hb3 hb4
                    go_wp2
                    refine ⟨⟨cell_low cG hb5, cell_low q0 hb5, cell_low q1 hb5, cell_low q2 hb5, cell_low q3 hb5, cell_low q4 hb5, cell_low q5 hb5, cell_low cL hb5⟩, ?_⟩
                    (repeat (first | (refine qs_now (v := ?_) (by rfl) ?_ ?_; rotate_left 1; (· (intro w' hS; go_simp; (try (simp only [↓IntWalk.iteOmega]; go_simp)); (try simp (disch := omega) only [IntWalk.i64_in]); try with_reducible rfl)); simp only [Act.put, List.setIfInBounds_toArray, List.set_cons_zero, List.set_cons_succ]) | (refine qs_run (v := ?_) (by rfl) ?_ ?_; rotate_left 1; (· (intro j w' hS; go_simp; (try (simp only [↓IntWalk.iteOmega]; go_simp)); (try simp (disch := omega) only [IntWalk.i64_in]); try with_reducible rfl)); simp only [Act.put, List.setIfInBounds_toArray, List.set_cons_zero, List.set_cons_succ]) | (refine qs_mid (v := ?_) (by rfl) ?_ ?_; rotate_left 1; (· (intro j w' hj1 hj2 hS; go_simp; (try (simp only [↓IntWalk.iteOmega]; go_simp)); (try simp (disch := omega) only [IntWalk.i64_in]); try with_reducible rfl)); simp only [Act.put, List.setIfInBounds_toArray, List.set_cons_zero, List.set_cons_succ]) | (refine qs_skip (by rfl) ?_; simp only [Act.put, List.setIfInBounds_toArray, List.set_cons_zero, List.set_cons_succ])))
                    refine qs_act ?_
                    go_wp2
                    refine ⟨⟨cell_low cG hb5, cell_low q0 hb5, cell_low q1 hb5, cell_low q2 hb5, cell_low q3 hb5, cell_low q4 hb5, cell_low q5 hb5, cell_low cL hb5⟩, ?_⟩
                    (repeat (first | (refine qs_now (v := ?_) (by rfl) ?_ ?_; rotate_left 1; (· (intro w' hS; go_simp; (try (simp only [↓IntWalk.iteOmega]; go_simp)); (try simp (disch := omega) only [IntWalk.i64_in]); try with_reducible rfl)); simp only [Act.put, List.setIfInBounds_toArray, List.set_cons_zero, List.set_cons_succ]) | (refine qs_run (v := ?_) (by rfl) ?_ ?_; rotate_left 1; (· (intro j w' hS; go_simp; (try (simp only [↓IntWalk.iteOmega]; go_simp)); (try simp (disch := omega) only [IntWalk.i64_in]); try with_reducible rfl)); simp only [Act.put, List.setIfInBounds_toArray, List.set_cons_zero, List.set_cons_succ]) | (refine qs_mid (v := ?_) (by rfl) ?_ ?_; rotate_left 1; (· (intro j w' hj1 hj2 hS; go_simp; (try (simp only [↓IntWalk.iteOmega]; go_simp)); (try simp (disch := omega) only [IntWalk.i64_in]); try with_reducible rfl)); simp only [Act.put, List.setIfInBounds_toArray, List.set_cons_zero, List.set_cons_succ]) | (refine qs_skip (by rfl) ?_; simp only [Act.put, List.setIfInBounds_toArray, List.set_cons_zero, List.set_cons_succ])))
                    refine qs_act ?_
                    go_wp2
                    refine ⟨⟨cell_low cG hb5, cell_low q0 hb5, cell_low q1 hb5, cell_low q2 hb5, cell_low q3 hb5, cell_low q4 hb5, cell_low q5 hb5, cell_low cL hb5⟩, ?_⟩
                    (repeat (first | (refine qs_now (v := ?_) (by rfl) ?_ ?_; rotate_left 1; (· (intro w' hS; go_simp; (try (simp only [↓IntWalk.iteOmega]; go_simp)); (try simp (disch := omega) only [IntWalk.i64_in]); try with_reducible rfl)); simp only [Act.put, List.setIfInBounds_toArray, List.set_cons_zero, List.set_cons_succ]) | (refine qs_run (v := ?_) (by rfl) ?_ ?_; rotate_left 1; (· (intro j w' hS; go_simp; (try (simp only [↓IntWalk.iteOmega]; go_simp)); (try simp (disch := omega) only [IntWalk.i64_in]); try with_reducible rfl)); simp only [Act.put, List.setIfInBounds_toArray, List.set_cons_zero, List.set_cons_succ]) | (refine qs_mid (v := ?_) (by rfl) ?_ ?_; rotate_left 1; (· (intro j w' hj1 hj2 hS; go_simp; (try (simp only [↓IntWalk.iteOmega]; go_simp)); (try simp (disch := omega) only [IntWalk.i64_in]); try with_reducible rfl)); simp only [Act.put, List.setIfInBounds_toArray, List.set_cons_zero, List.set_cons_succ]) | (refine qs_skip (by rfl) ?_; simp only [Act.put, List.setIfInBounds_toArray, List.set_cons_zero, List.set_cons_succ])))
                    refine qs_nil ?_
                    go_wp2
                    go_roundg (gk - 1)
                    case measure => omega
                    case rel => exact ⟨i + 1, by omega, by go_num, below_chain HBR.out hb5⟩
                · obtain rfl : i = n k + 64 := by omega
                  go_wp2
                  go_roundg (go - 1)
                  case measure => omega
                  case rel => exact ⟨k + 1, by omega, by go_num, HBR.out⟩
            · obtain rfl : K = k := by omega
              -- P5(
              obtain ⟨wd, hwd⟩ : ∃ wd, wd = wr := ⟨_, rfl⟩
              rw [← hwd]
              have SD := Lib.hid (show StG 27 33 6 mkS wd base L Gb K V n (fun j => mksG mkS j (n j) ++ mksG mkS (j + K) 64) 0 G from
                ⟨fun j hj => by rw [hwd]; exact SR.out.1 j hj, by rw [hwd]; exact SR.out.2.1, by rw [hwd]; exact SR.out.2.2.1, fun j hj => absurd hj (by omega), fun i j hi hj => absurd hj (by omega), fun i j hi => absurd hi (by omega)⟩)
              have BD := Lib.hid (show BelG 27 base w wd by rw [hwd]; exact B.out.below HBR.out)
              clear S B SR HBR hwd
              go_wp2
              go_loopg [11] K (FGG 27 33 6 mkS w base L Gb K V n (fun j => mksG mkS j (n j) ++ mksG mkS (j + K) 64))
              case atStart => exact ⟨0, G, by omega, rfl, SD.out, BD.out⟩
              case round =>
                clear SD BD
                obtain ⟨k, G, hk, rfl, hs, hb'⟩ := hrel
                have S := Lib.hid hs
                have B := Lib.hid hb'
                clear hs hb'
                by_cases hkK : k < K
                · have hkI : (k : Int) < K := by omega
                  obtain ⟨go, hgo⟩ : ∃ go, go = gk := ⟨_, rfl⟩
                  rw [← hgo] at hk
                  have hnk := HN.out k hkK
                  go_wp2_with (refine mk_steps rfl (.const (.int .i64 64)) (.const (.int .i64 64)) rfl wr.heap.size 64 _ _ rfl rfl rfl rfl (by omega) (Nat.le_refl _) ?_; intro w4 ho4 hg4; have O4 := Lib.hid ho4; have N4 := Lib.hid hg4; clear ho4 hg4)
                  obtain ⟨M, hM⟩ : ∃ M, M = wr.heap.size := ⟨_, rfl⟩
                  rw [← hM] at O4 ⊢
                  have B4 := Lib.hid (show Below M wr w4 by rw [hM]; exact bl_n (Below.refl _ _) N4.out)
                  have HM := Lib.hid hM
                  clear hM N4
                  go_loopg [13] 64 (Pf7G 27 6 mkS wr M (k + K))
                  case atStart => exact ⟨0, _, by omega, rfl, O4.out, by simp [mksG], B4.out⟩
                  case round =>
                    clear O4 B4
                    obtain ⟨i, z, hi, rfl, ho, hz, hbz⟩ := hrel
                    have O := Lib.hid ho
                    have HZ := Lib.hid hz
                    have BZ := Lib.hid hbz
                    clear ho hz hbz
                    by_cases hik : i < 64
                    · have hikI : (i : Int) < 64 := by omega
                      have hsum := Lib.hid (show (k : Int) + (K : Int) = ((k + K : Nat) : Int) by omega)
                      have MK := Lib.hid (fun wz => markStep_any ((k + K : Nat) : Int) (i : Int) wz (by omega) (by omega))
                      obtain ⟨y, hy⟩ : ∃ y, y = mfv ((k + K : Nat) : Int) (i : Int) := ⟨_, rfl⟩
                      have HY := Lib.hid hy
                      rw [← hy] at MK
                      clear hy
                      go_wp2_with (go_at_call 103; refine heldW ?_)
                      unfold HeldW
                      rw [hsum.out]
                      refine (MK.out _).mono ?_
                      rintro ev w2 ⟨rfl, hb2⟩
                      have O2 := Lib.hid (own_belowG O.out hb2)
                      have BZ2 := Lib.hid (BZ.out.trans (hb2.mono (by have h1 := HM.out; have h2 := BZ.out.size; omega)))
                      clear hb2
                      have HMK := Lib.hid (show mkS (k + K) i = [.int .u8 0, .int .i64 y, .int .i64 0, .int .i64 0, .slice none 0 0, .slice none 0 0] by unfold mkS; rw [HY.out])
                      go_wp2_with (refine wpl_store_el rfl 27 (.tmp 142) (.tmp 141) rfl M M i 64 64 6 27 #[.int .u8 0, .int .i64 y, .int .i64 0, .int .i64 0, .slice none 0 0, .slice none 0 0] ?hx ?hy _ O2.out hik rfl infoStep (by simp [Value.oneCell']) ?_)
                      case hx => rfl
                      case hy => rfl
                      intro w3 ZN on gn hzn
                      have ON := Lib.hid on
                      have HZN := Lib.hid hzn
                      have LN := Lib.hid (BZ2.out.grown gn (by have h1 := HM.out; have h2 := BZ2.out.size; omega) (fun j hj => by have := Option.some.inj hj; omega))
                      clear on gn hzn
                      go_wp2
                      go_roundg (gk - 1)
                      case measure => omega
                      case rel =>
                        exact ⟨i + 1, ZN, by omega, by go_num, ON.out, by rw [HZN.out, mksG_succ, HZ.out, HMK.out], LN.out⟩
                    · obtain rfl : i = 64 := by omega
                      have hz64 : z = mksG mkS (k + K) 64 := by
                        have := HZ.out
                        rwa [List.take_of_length_le (by have := O.out.1; omega)] at this
                      rw [hz64] at O
                      have SZ := Lib.hid (S.out.below (by rw [← HM.out]; exact BZ.out))
                      have BB := Lib.hid (B.out.below (by rw [← HM.out]; exact BZ.out))
                      clear HZ hz64
                      have cL := SZ.out.2.1.cell hkK
                      obtain ⟨A, c, hV, _⟩ := own_slice (SZ.out.1 k hkK)
                      have oV := SZ.out.1 k hkK
                      have gV := GvG.start SZ.out hkK HA.out
                      rw [hV] at cL oV gV
                      have OV := Lib.hid oV
                      have GV := Lib.hid gV
                      have fG := SZ.out.2.2.1.free k
                      clear hV oV gV
                      go_wp2_with (refine app_fineG rfl (.tmp 148) (.tmp 149) 33 rfl base 27 _ 6 80 (by decide) Tryz.underlying33 infoStepZ rfl _ (n k) _ rfl OV.out _ 64 _ rfl (Src.of_own O.out) (onesS _ _) (by omega) (by omega) (by omega) BB.out.le ?_; intro v2 w2 ho2 hf2; obtain ⟨A2, c2, hv2, _⟩ := own_slice ho2; subst hv2; have hst := StG.app hRES SZ.out hkK GV.out OV.out (Nat.le_refl _) (mksG_take lmkS _ _ _ (Nat.le_refl _)) (ys := mksG mkS (k + K) 64) ho2 hf2; have cG := hst.1.2.2.1.cell hkK; have fG2 := hst.1.2.2.1.free k; have S2 := Lib.hid hst; have O2 := Lib.hid ho2; have FN2 := Lib.hid hf2; clear ho2 hf2 hst)
                      have B2 := Lib.hid (BelG.app BB.out OV.out FN2.out)
                      go_roundg (go - 1)
                      case measure => omega
                      case rel =>
                        exact ⟨k + 1, updV G k _, by omega, by go_num, S2.out.1.lay hRES hkK S2.out.2 O2.out HLG, B2.out.putNew hGb2 _ _⟩
                · obtain rfl : K = k := by omega
                  obtain ⟨w5, hw5⟩ : ∃ w5, w5 = wr := ⟨_, rfl⟩
                  rw [← hw5] at S B ⊢
                  clear hw5
                  go_wp2
                  go_loopg [14] K (ROG K w5)
                  case atStart => exact ⟨0, by omega, rfl, Below.refl _ _⟩
                  case round =>
                    obtain ⟨k, hk, rfl, hbr⟩ := hrel
                    have SR := Lib.hid (S.out.below hbr)
                    have HBR := Lib.hid hbr
                    clear hbr
                    by_cases hkK : k < K
                    · have hkI : (k : Int) < K := by omega
                      have cL := SR.out.2.1.cell hkK
                      obtain ⟨A, c, hVk, _⟩ := own_slice (SR.out.1 k hkK)
                      rw [hVk] at cL
                      have HVk := Lib.hid hVk
                      obtain ⟨go, hgo⟩ : ∃ go, go = gk := ⟨_, rfl⟩
                      rw [← hgo] at hk
                      have hnk := HN.out k hkK
                      clear hVk
                      go_wp2
                      go_loopg [15] (n k) (ROG (n k) w5)
                      case atStart => exact ⟨0, by omega, rfl, HBR.out⟩
                      case round =>
                        clear cL SR HBR
                        obtain ⟨i, hi, rfl, hbr⟩ := hrel
                        have SR := Lib.hid (S.out.below hbr)
                        have HBR := Lib.hid hbr
                        clear hbr
                        have cL := SR.out.2.1.cell hkK
                        rw [HVk.out] at cL
                        by_cases hik : i < n k
                        · have hikI : (i : Int) < (n k : Int) := by omega
                          have hok := SR.out.1 k hkK
                          rw [HVk.out] at hok
                          obtain ⟨g, cc, hv, hbg, hlt2⟩ := hok.form (by omega)
                          injection hv with hv hv2 hv3
                          subst hv hv3
                          have OK := Lib.hid hok
                          have cG := SR.out.2.2.1.cell hkK
                          obtain ⟨A2, c2, hGk, _⟩ := own_slice (SR.out.2.2.2.1 k hkK)
                          have hok2 := SR.out.2.2.2.1 k hkK
                          rw [hGk] at cG hok2
                          obtain ⟨g2, cc2, hv, _, _⟩ := hok2.form (show 0 < n k + 64 by omega)
                          injection hv with hv hv2 hv3
                          subst hv hv3
                          have OK2 := Lib.hid hok2
                          have MK := Lib.hid (fun wz => markStep_any k i wz (by omega) (by omega))
                          have hik2 : i < n k + 64 := by omega
                          clear hok hGk hok2
                          obtain ⟨y, hy⟩ : ∃ y, y = mfv (k : Int) (i : Int) := ⟨_, rfl⟩
                          have q0 : wr.cell? ⟨g, i * 6, none⟩ = some (.int .u8 0) := by
                            rw [OK.out.cellAt (i * 6) (by omega), show i * 6 = i * 6 + 0 from rfl, mksG_get lmkS k _ i 0 hik (by omega)]
                            first | rfl | (rw [hy]; rfl)
                          have q1 : wr.cell? ⟨g, i * 6 + 1, none⟩ = some (.int .i64 y) := by
                            rw [OK.out.cellAt (i * 6 + 1) (by omega), mksG_get lmkS k _ i 1 hik (by omega)]
                            first | rfl | (rw [hy]; rfl)
                          have q2 : wr.cell? ⟨g, i * 6 + 2, none⟩ = some (.int .i64 0) := by
                            rw [OK.out.cellAt (i * 6 + 2) (by omega), mksG_get lmkS k _ i 2 hik (by omega)]
                            first | rfl | (rw [hy]; rfl)
                          have q3 : wr.cell? ⟨g, i * 6 + 3, none⟩ = some (.int .i64 0) := by
                            rw [OK.out.cellAt (i * 6 + 3) (by omega), mksG_get lmkS k _ i 3 hik (by omega)]
                            first | rfl | (rw [hy]; rfl)
                          have q4 : wr.cell? ⟨g, i * 6 + 4, none⟩ = some (.slice none 0 0) := by
                            rw [OK.out.cellAt (i * 6 + 4) (by omega), mksG_get lmkS k _ i 4 hik (by omega)]
                            first | rfl | (rw [hy]; rfl)
                          have q5 : wr.cell? ⟨g, i * 6 + 5, none⟩ = some (.slice none 0 0) := by
                            rw [OK.out.cellAt (i * 6 + 5) (by omega), mksG_get lmkS k _ i 5 hik (by omega)]
                            first | rfl | (rw [hy]; rfl)
                          have p0 : wr.cell? ⟨g2, i * 6, none⟩ = some (.int .u8 0) := by
                            rw [OK2.out.cellAt (i * 6) (show i * 6 < (n k + 64) * 6 by omega), List.getElem?_append_left (by rw [mksG_len lmkS]; omega), show i * 6 = i * 6 + 0 from rfl, mksG_get lmkS k _ i 0 hik (by omega)]
                            first | rfl | (rw [hy]; rfl)
                          have p1 : wr.cell? ⟨g2, i * 6 + 1, none⟩ = some (.int .i64 y) := by
                            rw [OK2.out.cellAt (i * 6 + 1) (show i * 6 + 1 < (n k + 64) * 6 by omega), List.getElem?_append_left (by rw [mksG_len lmkS]; omega), mksG_get lmkS k _ i 1 hik (by omega)]
                            first | rfl | (rw [hy]; rfl)
                          have p2 : wr.cell? ⟨g2, i * 6 + 2, none⟩ = some (.int .i64 0) := by
                            rw [OK2.out.cellAt (i * 6 + 2) (show i * 6 + 2 < (n k + 64) * 6 by omega), List.getElem?_append_left (by rw [mksG_len lmkS]; omega), mksG_get lmkS k _ i 2 hik (by omega)]
                            first | rfl | (rw [hy]; rfl)
                          have p3 : wr.cell? ⟨g2, i * 6 + 3, none⟩ = some (.int .i64 0) := by
                            rw [OK2.out.cellAt (i * 6 + 3) (show i * 6 + 3 < (n k + 64) * 6 by omega), List.getElem?_append_left (by rw [mksG_len lmkS]; omega), mksG_get lmkS k _ i 3 hik (by omega)]
                            first | rfl | (rw [hy]; rfl)
                          have p4 : wr.cell? ⟨g2, i * 6 + 4, none⟩ = some (.slice none 0 0) := by
                            rw [OK2.out.cellAt (i * 6 + 4) (show i * 6 + 4 < (n k + 64) * 6 by omega), List.getElem?_append_left (by rw [mksG_len lmkS]; omega), mksG_get lmkS k _ i 4 hik (by omega)]
                            first | rfl | (rw [hy]; rfl)
                          have p5 : wr.cell? ⟨g2, i * 6 + 5, none⟩ = some (.slice none 0 0) := by
                            rw [OK2.out.cellAt (i * 6 + 5) (show i * 6 + 5 < (n k + 64) * 6 by omega), List.getElem?_append_left (by rw [mksG_len lmkS]; omega), mksG_get lmkS k _ i 5 hik (by omega)]
                            first | rfl | (rw [hy]; rfl)
                          rw [← hy] at MK
                          clear hy
                          go_wp2
                          refine wp_region_qs (fun jj w' => w'.cell? ⟨Gb, k, none⟩ = some (.slice (some ⟨g2, 0, none⟩) (n k + 64) c2) ∧ w'.cell? ⟨g2, i * 6, none⟩ = some (.int .u8 0) ∧ w'.cell? ⟨g2, i * 6 + 1, none⟩ = some (.int .i64 y) ∧ w'.cell? ⟨g2, i * 6 + 2, none⟩ = some (.int .i64 0) ∧ w'.cell? ⟨g2, i * 6 + 3, none⟩ = some (.int .i64 0) ∧ w'.cell? ⟨g2, i * 6 + 4, none⟩ = some (.slice none 0 0) ∧ w'.cell? ⟨g2, i * 6 + 5, none⟩ = some (.slice none 0 0) ∧ w'.cell? ⟨L, k, none⟩ = some (.slice (some ⟨g, 0, none⟩) (n k) c) ∧ w'.cell? ⟨g, i * 6, none⟩ = some (.int .u8 0) ∧ w'.cell? ⟨g, i * 6 + 1, none⟩ = some (.int .i64 y) ∧ w'.cell? ⟨g, i * 6 + 2, none⟩ = some (.int .i64 0) ∧ w'.cell? ⟨g, i * 6 + 3, none⟩ = some (.int .i64 0) ∧ w'.cell? ⟨g, i * 6 + 4, none⟩ = some (.slice none 0 0) ∧ w'.cell? ⟨g, i * 6 + 5, none⟩ = some (.slice none 0 0)) [(0, some 4), (1, some 4), (2, some 4), (3, some 4), (4, some 4), (5, some 4), (6, some 3), (7, some 3), (8, some 3), (9, none), (10, none), (11, some 4), (12, some 2), (13, some 4), (14, some 4), (15, some 4), (16, some 4), (17, some 4), (18, some 4), (19, some 3), (20, some 3), (21, some 3), (22, none), (23, none), (24, some 4), (25, some 4)] (by kernel_rfl) (by kernel_rfl) (by kernel_rfl) (by kernel_rfl) (by kernel_rfl) (fun _ _ _ _ _ h => h) ⟨cG, p0, p1, p2, p3, p4, p5, cL, q0, q1, q2, q3, q4, q5⟩ ?_
                          simp only [List.map_cons, List.map_nil, List.getD_cons_succ, List.getD_cons_zero]
                          (repeat (first | (refine qs_now (v := ?_) (by rfl) ?_ ?_; rotate_left 1; (· (intro w' hS; go_simp; (try (simp only [↓IntWalk.iteOmega]; go_simp)); (try simp (disch := omega) only [IntWalk.i64_in]); try with_reducible rfl)); simp only [Act.put, List.setIfInBounds_toArray, List.set_cons_zero, List.set_cons_succ]) | (refine qs_run (v := ?_) (by rfl) ?_ ?_; rotate_left 1; (· (intro j w' hS; go_simp; (try (simp only [↓IntWalk.iteOmega]; go_simp)); (try simp (disch := omega) only [IntWalk.i64_in]); try with_reducible rfl)); simp only [Act.put, List.setIfInBounds_toArray, List.set_cons_zero, List.set_cons_succ]) | (refine qs_mid (v := ?_) (by rfl) ?_ ?_; rotate_left 1; (· (intro j w' hj1 hj2 hS; go_simp; (try (simp only [↓IntWalk.iteOmega]; go_simp)); (try simp (disch := omega) only [IntWalk.i64_in]); try with_reducible rfl)); simp only [Act.put, List.setIfInBounds_toArray, List.set_cons_zero, List.set_cons_succ]) | (refine qs_skip (by rfl) ?_; simp only [Act.put, List.setIfInBounds_toArray, List.set_cons_zero, List.set_cons_succ])))
                          refine qs_act ?_
                          go_wp2_with fail
                          refine (MK.out _).mono ?_
                          rintro ev w2 ⟨rfl, hb2⟩
                          have hb3 : Below wr.heap.size wr w2 := (Below.refl _ _).drew.trans hb2
                          go_wp2
                          refine ⟨⟨cell_low cG hb3, cell_low p0 hb3, cell_low p1 hb3, cell_low p2 hb3, cell_low p3 hb3, cell_low p4 hb3, cell_low p5 hb3, cell_low cL hb3, cell_low q0 hb3, cell_low q1 hb3, cell_low q2 hb3, cell_low q3 hb3, cell_low q4 hb3, cell_low q5 hb3⟩, ?_⟩
                          (repeat (first | (refine qs_now (v := ?_) (by rfl) ?_ ?_; rotate_left 1; (· (intro w' hS; go_simp; (try (simp only [↓IntWalk.iteOmega]; go_simp)); (try simp (disch := omega) only [IntWalk.i64_in]); try with_reducible rfl)); simp only [Act.put, List.setIfInBounds_toArray, List.set_cons_zero, List.set_cons_succ]) | (refine qs_run (v := ?_) (by rfl) ?_ ?_; rotate_left 1; (· (intro j w' hS; go_simp; (try (simp only [↓IntWalk.iteOmega]; go_simp)); (try simp (disch := omega) only [IntWalk.i64_in]); try with_reducible rfl)); simp only [Act.put, List.setIfInBounds_toArray, List.set_cons_zero, List.set_cons_succ]) | (refine qs_mid (v := ?_) (by rfl) ?_ ?_; rotate_left 1; (· (intro j w' hj1 hj2 hS; go_simp; (try (simp only [↓IntWalk.iteOmega]; go_simp)); (try simp (disch := omega) only [IntWalk.i64_in]); try with_reducible rfl)); simp only [Act.put, List.setIfInBounds_toArray, List.set_cons_zero, List.set_cons_succ]) | (refine qs_skip (by rfl) ?_; simp only [Act.put, List.setIfInBounds_toArray, List.set_cons_zero, List.set_cons_succ])))
                          refine qs_act ?_
                          go_wp2_with fail
                          refine (same_mark y _).mono ?_
                          rintro ev w4 ⟨rfl, hb4⟩
                          have hb5 := below_chain hb3 hb4
                          go_wp2
                          refine ⟨⟨cell_low cG hb5, cell_low p0 hb5, cell_low p1 hb5, cell_low p2 hb5, cell_low p3 hb5, cell_low p4 hb5, cell_low p5 hb5, cell_low cL hb5, cell_low q0 hb5, cell_low q1 hb5, cell_low q2 hb5, cell_low q3 hb5, cell_low q4 hb5, cell_low q5 hb5⟩, ?_⟩
                          (repeat (first | (refine qs_now (v := ?_) (by rfl) ?_ ?_; rotate_left 1; (· (intro w' hS; go_simp; (try (simp only [↓IntWalk.iteOmega]; go_simp)); (try simp (disch := omega) only [IntWalk.i64_in]); try with_reducible rfl)); simp only [Act.put, List.setIfInBounds_toArray, List.set_cons_zero, List.set_cons_succ]) | (refine qs_run (v := ?_) (by rfl) ?_ ?_; rotate_left 1; (· (intro j w' hS; go_simp; (try (simp only [↓IntWalk.iteOmega]; go_simp)); (try simp (disch := omega) only [IntWalk.i64_in]); try with_reducible rfl)); simp only [Act.put, List.setIfInBounds_toArray, List.set_cons_zero, List.set_cons_succ]) | (refine qs_mid (v := ?_) (by rfl) ?_ ?_; rotate_left 1; (· (intro j w' hj1 hj2 hS; go_simp; (try (simp only [↓IntWalk.iteOmega]; go_simp)); (try simp (disch := omega) only [IntWalk.i64_in]); try with_reducible rfl)); simp only [Act.put, List.setIfInBounds_toArray, List.set_cons_zero, List.set_cons_succ]) | (refine qs_skip (by rfl) ?_; simp only [Act.put, List.setIfInBounds_toArray, List.set_cons_zero, List.set_cons_succ])))
                          refine qs_act ?_
                          go_wp2_with fail
                          refine (MK.out _).mono ?_
                          rintro ev w6 ⟨rfl, hb6⟩
                          have hb7 := below_chain hb5 hb6
                          go_wp2
                          refine ⟨⟨cell_low cG hb7, cell_low p0 hb7, cell_low p1 hb7, cell_low p2 hb7, cell_low p3 hb7, cell_low p4 hb7, cell_low p5 hb7, cell_low cL hb7, cell_low q0 hb7, cell_low q1 hb7, cell_low q2 hb7, cell_low q3 hb7, cell_low q4 hb7, cell_low q5 hb7⟩, ?_⟩
                          (repeat (first | (refine qs_now (v := ?_) (by rfl) ?_ ?_; rotate_left 1; (· (intro w' hS; go_simp; (try (simp only [↓IntWalk.iteOmega]; go_simp)); (try simp (disch := omega) only [IntWalk.i64_in]); try with_reducible rfl)); simp only [Act.put, List.setIfInBounds_toArray, List.set_cons_zero, List.set_cons_succ]) | (refine qs_run (v := ?_) (by rfl) ?_ ?_; rotate_left 1; (· (intro j w' hS; go_simp; (try (simp only [↓IntWalk.iteOmega]; go_simp)); (try simp (disch := omega) only [IntWalk.i64_in]); try with_reducible rfl)); simp only [Act.put, List.setIfInBounds_toArray, List.set_cons_zero, List.set_cons_succ]) | (refine qs_mid (v := ?_) (by rfl) ?_ ?_; rotate_left 1; (· (intro j w' hj1 hj2 hS; go_simp; (try (simp only [↓IntWalk.iteOmega]; go_simp)); (try simp (disch := omega) only [IntWalk.i64_in]); try with_reducible rfl)); simp only [Act.put, List.setIfInBounds_toArray, List.set_cons_zero, List.set_cons_succ]) | (refine qs_skip (by rfl) ?_; simp only [Act.put, List.setIfInBounds_toArray, List.set_cons_zero, List.set_cons_succ])))
                          refine qs_act ?_
                          go_wp2_with fail
                          refine (same_mark y _).mono ?_
                          rintro ev w8 ⟨rfl, hb8⟩
                          have hb9 := below_chain hb7 hb8
                          go_wp2
                          refine ⟨⟨cell_low cG hb9, cell_low p0 hb9, cell_low p1 hb9, cell_low p2 hb9, cell_low p3 hb9, cell_low p4 hb9, cell_low p5 hb9, cell_low cL hb9, cell_low q0 hb9, cell_low q1 hb9, cell_low q2 hb9, cell_low q3 hb9, cell_low q4 hb9, cell_low q5 hb9⟩, ?_⟩
                          (repeat (first | (refine qs_now (v := ?_) (by rfl) ?_ ?_; rotate_left 1; (· (intro w' hS; go_simp; (try (simp only [↓IntWalk.iteOmega]; go_simp)); (try simp (disch := omega) only [IntWalk.i64_in]); try with_reducible rfl)); simp only [Act.put, List.setIfInBounds_toArray, List.set_cons_zero, List.set_cons_succ]) | (refine qs_run (v := ?_) (by rfl) ?_ ?_; rotate_left 1; (· (intro j w' hS; go_simp; (try (simp only [↓IntWalk.iteOmega]; go_simp)); (try simp (disch := omega) only [IntWalk.i64_in]); try with_reducible rfl)); simp only [Act.put, List.setIfInBounds_toArray, List.set_cons_zero, List.set_cons_succ]) | (refine qs_mid (v := ?_) (by rfl) ?_ ?_; rotate_left 1; (· (intro j w' hj1 hj2 hS; go_simp; (try (simp only [↓IntWalk.iteOmega]; go_simp)); (try simp (disch := omega) only [IntWalk.i64_in]); try with_reducible rfl)); simp only [Act.put, List.setIfInBounds_toArray, List.set_cons_zero, List.set_cons_succ]) | (refine qs_skip (by rfl) ?_; simp only [Act.put, List.setIfInBounds_toArray, List.set_cons_zero, List.set_cons_succ])))
                          refine qs_nil ?_
                          go_wp2
                          go_roundg (gk - 1)
                          case measure => omega
                          case rel => exact ⟨i + 1, by omega, by go_num, below_chain HBR.out hb9⟩
                        · obtain rfl : i = n k := by omega
                          go_wp2
                          go_roundg (go - 1)
                          case measure => omega
                          case rel => exact ⟨k + 1, by omega, by go_num, HBR.out⟩
                    · obtain rfl : K = k := by omega
                      go_wp2
                      go_ret
                      exact ⟨rfl, B.out.below HBR.out⟩
              -- )P5
          -- )P4
      -- )P3
end Go.Proofs.YtfehgpjnlkgekaaGreatDoor
