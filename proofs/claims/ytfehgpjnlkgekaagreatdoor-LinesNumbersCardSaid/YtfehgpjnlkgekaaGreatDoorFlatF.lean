/-
  peatbankkit's bags: rows of fates that lie apart are found so. (printed by genflat.py)
-/
import Derived.Test.YtfehgpjnlkgekaaGreatDoorFlatG
import Derived.Test.YtfehgpjnlkgekaaGreatDoorFlatM
namespace Go.Proofs.YtfehgpjnlkgekaaGreatDoor
open Go.RowKit
set_option linter.unusedVariables false
set_option linter.unusedSimpArgs false

theorem lmkF (k i : Nat) : (mkF k i).length = 1 := rfl
theorem mk_fates {w : World} {ops : Array Oper} {rest : List Oper} {o : Oper} {a : Act} {Q : Exit → Act → World → Prop} (hg : o.guard = none) (l c : Operand) (hop : o.op = Op.makeSlice 25 l c) (base n : Nat) (L C : Int) (hl : a.eval l = .int .i64 L) (hc : a.eval c = .int .i64 C) (hL : L = (n : Int)) (hC : C = (n : Int)) (hn : n ≤ 1000) (hb : base ≤ w.heap.size)
    (hK : ∀ w', w'.ownsRow base 50 1 (.slice (some ⟨w.heap.size, 0, none⟩) n n) n (madeCells (Value.agg #[.int .i64 0]).cells (n * 1)).toList → w.grownBy w' none → wpList Tryz.prog ops Q rest (a.put o.dst (.slice (some ⟨w.heap.size, 0, none⟩) n n)) w') : wpList Tryz.prog ops Q (o :: rest) a w := by
  obtain ⟨i0, hi, hz0, hz1, hz2⟩ := info_parts infoFate
  exact wpList_make_full w hg l c _ hop base 50 i0 _ 1 Tryz.underlying25 hi hz0 hz1 .i64 .i64 L C n hl hc hL hC (by rw [hz2]; omega) (by unfold maxLen; omega) hb hK
theorem onesF (k m : Nat) : ∀ y ∈ mksG mkF k m, y.oneCell' = true := by
  intro y hy
  simp only [mksG, mkF, List.mem_flatMap, List.mem_singleton] at hy
  obtain ⟨_, _, rfl⟩ := hy
  rfl
theorem oneF (k i : Nat) : ∀ y ∈ mkF k i, y.oneCell' = true := by simp [mkF, Value.oneCell']

theorem FamG.turnF {w w' : World} {base K : Nat} {V : Nat → Value} {n : Nat → Nat} {X : Nat → List Value} (h : FamG 50 1 w base K V n X) (hA : Apt K V V) {k g : Nat} {X' : List Value} (hk : k < K) (hV : (V k).ownBlock = some g) (hg : w.grownBy w' (some g)) (ho : w'.ownsRow base 50 1 (V k) (n k) X') :
    FamG 50 1 w' base K V n (updV X k X') := fun j hj => by
  by_cases hjk : j = k
  · subst hjk
    rw [updV_same]
    exact ho
  · rw [updV_else _ _ _ hjk]
    exact own_keptG (h j hj) hg (fun b hb => by
      injection hb with hb
      subst hb
      exact hA k j hk hj (fun e => hjk e.symm) _ hV)
theorem mk_rowsF {w : World} {ops : Array Oper} {rest : List Oper} {o : Oper} {a : Act} {Q : Exit → Act → World → Prop} (hg : o.guard = none) (l c : Operand) (hop : o.op = Op.makeSlice 77 l c) (n : Nat) (L C : Int) (hl : a.eval l = .int .i64 L) (hc : a.eval c = .int .i64 C) (hL : L = (n : Int)) (hC : C = (n : Int)) (hn : n ≤ 1000)
    (hK : ∀ w', LAtG 25 w' w.heap.size n (fun _ => .slice none 0 0) → w.grownBy w' none → wpList Tryz.prog ops Q rest (a.put o.dst (.slice (some ⟨w.heap.size, 0, none⟩) n n)) w') : wpList Tryz.prog ops Q (o :: rest) a w := by
  obtain ⟨i0, hi, hz0, hz1, hz2⟩ := info_parts infoRowF
  refine wpList_make_full w hg l c _ hop 0 25 i0 _ 1 Tryz.underlying77 hi hz0 hz1 .i64 .i64 L C n hl hc hL hC (by rw [hz2]; omega) (by unfold maxLen; omega) (Nat.zero_le _) (fun w' h1 h2 => hK w' ?_ h2)
  have e : (madeCells (Value.slice none 0 0).cells (n * 1)).toList = List.replicate n (.slice none 0 0) := by rw [Nat.mul_one]; exact toList_madeCells_one _ _
  rw [e] at h1
  rcases h1.2 with ⟨h0, _⟩ | ⟨g', cap, cur, hv, hb, hg, hnc, hcm, hcs, ht⟩
  · cases h0
  · injection hv with a1 a2 a3
    injection a1 with a1
    injection a1 with a1
    subst a1
    refine ⟨cur, hg, fun k hk => ?_⟩
    have h3 : (cur.toList.take (n * 1))[k]? = (List.replicate n (Value.slice none 0 0))[k]? := by rw [ht]
    rw [List.getElem?_take_of_lt (by omega), List.getElem?_replicate, if_pos hk] at h3
    simpa using h3
theorem hREF : 25 ≠ 50 := by decide
set_option maxHeartbeats 1600000 in
set_option maxRecDepth 100000 in
theorem flatFates_any (w : World) (base L K c : Nat) (V : Nat → Value) (n : Nat → Nat) (X : Nat → List Value) (hL : LAtG 25 w L K V) (hF : FamG 50 1 w base K V n X) (hA : Apt K V V) (hK : K ≤ 1000) (hn : ∀ k, k < K → n k ≤ 1000000000) (hb : base ≤ w.heap.size) :
    Calls Tryz.prog 54 #[.slice (some ⟨L, 0, none⟩) K c] w fun e w' => e = .returned (.bool true) ∧ BelG 50 base w w' := by
  have HL := Lib.hid hL
  have HF := Lib.hid hF
  have HA := Lib.hid hA
  have HN := Lib.hid hn
  clear hL hF hA hn
  go_enter Tryz.func54, Tryz.ntmps54
  go_wp2
  go_loopg [3] K (Pf1G 50 25 1 mkF w base L K V n)
  case atStart => exact ⟨0, X, by omega, rfl, HF.out, fun j hj => absurd hj (by omega), HL.out, BelG.refl hb⟩
  case round =>
    clear HF HL
    obtain ⟨k, X1, hk, rfl, hf, hx, hl, hb⟩ := hrel
    have F := Lib.hid hf
    have X1D := Lib.hid hx
    have LL := Lib.hid hl
    have B := Lib.hid hb
    clear hf hx hl hb
    by_cases hkK : k < K
    · have hkI : (k : Int) < K := by omega
      have cL := LL.out.cell hkK
      obtain ⟨A, c, hV, _⟩ := own_slice (F.out k hkK)
      rw [hV] at cL
      have HV := Lib.hid hV
      obtain ⟨go, hgo⟩ : ∃ go, go = gk := ⟨_, rfl⟩
      rw [← hgo] at hk
      have hnk := HN.out k hkK
      clear hV
      go_wp2
      go_loopg [4] (n k) (Pf2G 50 25 1 mkF w base L K V n k)
      case atStart => exact ⟨0, X1, by omega, rfl, F.out, X1D.out, by simp [mksG], LL.out, B.out⟩
      case round =>
        clear F X1D LL B cL
        obtain ⟨i, X2, hi, rfl, hf, hx, ht, hl, hb⟩ := hrel
        have F := Lib.hid hf
        have X2D := Lib.hid hx
        have X2T := Lib.hid ht
        have LL := Lib.hid hl
        have B := Lib.hid hb
        have cL := LL.out.cell hkK
        rw [HV.out] at cL
        clear hf hx ht hl hb
        by_cases hik : i < n k
        · have hikI : (i : Int) < (n k : Int) := by omega
          have hok := F.out k hkK
          rw [HV.out] at hok
          obtain ⟨g, cc, hv, hbg, hlt2⟩ := hok.form (by omega)
          injection hv with hv hv2 hv3
          subst hv hv3
          have MK := Lib.hid (fun wz => markFate_any k i wz (by have := hnk; omega) (by have := hnk; omega))
          obtain ⟨y, hy⟩ : ∃ y, y = mfv (k : Int) (i : Int) := ⟨_, rfl⟩
          have HY := Lib.hid hy
          rw [← hy] at MK
          have OK := Lib.hid hok
          clear hy hok
          go_wp2
          refine wp_region_qs (fun jj w' => w'.cell? ⟨L, k, none⟩ = some (.slice (some ⟨g, 0, none⟩) (n k) c)) [(0, some 1), (1, some 1), (2, some 1), (3, some 1), (4, some 1), (5, some 0), (6, some 0), (7, none), (8, some 1), (9, none)] (by kernel_rfl) (by kernel_rfl) (by kernel_rfl) (by kernel_rfl) (by kernel_rfl) (fun _ _ _ _ _ h => h) cL ?_
          simp only [List.map_cons, List.map_nil, List.getD_cons_succ, List.getD_cons_zero]
          (repeat (first | (refine qs_now (v := ?_) (by rfl) ?_ ?_; rotate_left 1; (· (intro w' hS; go_simp; (try (simp only [↓IntWalk.iteOmega]; go_simp)); (try simp (disch := omega) only [IntWalk.i64_in]); try with_reducible rfl)); simp only [Act.put, List.setIfInBounds_toArray, List.set_cons_zero, List.set_cons_succ]) | (refine qs_run (v := ?_) (by rfl) ?_ ?_; rotate_left 1; (· (intro j w' hS; go_simp; (try (simp only [↓IntWalk.iteOmega]; go_simp)); (try simp (disch := omega) only [IntWalk.i64_in]); try with_reducible rfl)); simp only [Act.put, List.setIfInBounds_toArray, List.set_cons_zero, List.set_cons_succ]) | (refine qs_skip (by rfl) ?_; simp only [Act.put, List.setIfInBounds_toArray, List.set_cons_zero, List.set_cons_succ])))
          refine qs_act ?_
          go_wp2_with fail
          refine (MK.out _).mono ?_
          rintro ev w2 ⟨rfl, hb2⟩
          have cL2 := cell_low cL (show Below wr.heap.size wr w2 from (Below.refl _ _).drew.trans hb2)
          have OK2 := Lib.hid (own_belowG OK.out (show Below wr.heap.size wr w2 from (Below.refl _ _).drew.trans hb2))
          have LL2 := Lib.hid (LL.out.below (show Below wr.heap.size wr w2 from (Below.refl _ _).drew.trans hb2))
          have F2 := Lib.hid (F.out.below (show Below wr.heap.size wr w2 from (Below.refl _ _).drew.trans hb2))
          have B2 := Lib.hid (B.out.below (show Below wr.heap.size wr w2 from (Below.refl _ _).drew.trans hb2))
          clear hb2
          go_wp2
          refine ⟨cL2, ?_⟩
          (repeat (first | (refine qs_now (v := ?_) (by rfl) ?_ ?_; rotate_left 1; (· (intro w' hS; go_simp; (try (simp only [↓IntWalk.iteOmega]; go_simp)); (try simp (disch := omega) only [IntWalk.i64_in]); try with_reducible rfl)); simp only [Act.put, List.setIfInBounds_toArray, List.set_cons_zero, List.set_cons_succ]) | (refine qs_run (v := ?_) (by rfl) ?_ ?_; rotate_left 1; (· (intro j w' hS; go_simp; (try (simp only [↓IntWalk.iteOmega]; go_simp)); (try simp (disch := omega) only [IntWalk.i64_in]); try with_reducible rfl)); simp only [Act.put, List.setIfInBounds_toArray, List.set_cons_zero, List.set_cons_succ]) | (refine qs_skip (by rfl) ?_; simp only [Act.put, List.setIfInBounds_toArray, List.set_cons_zero, List.set_cons_succ])))
          refine qs_act ?_
          have q2 := OK2.out.frozenAt i
          have hlen : (X2 k).length = n k := by have := OK2.out.1; simpa using this
          have q1 := OK2.out.cellAt i (by omega)
          rw [List.getElem?_eq_getElem (by omega)] at q1
          have HMK := Lib.hid (show mkF k i = [.int .i64 y] by unfold mkF; rw [HY.out])
          have HLen := Lib.hid hlen
          generalize (X2 k)[i]'(by omega) = x at *
          clear hlen
          go_wp2
          have hG := grown_put w2 ⟨g, i, none⟩ (.int .i64 y)
          have hne : some g ≠ some L := fun e => by
            injection e with e
            exact LL.out.ne hREF (F.out k hkK) (by rw [HV.out, ← e]; rfl)
          have cL3 := (LL2.out.kept hG hne).cell hkK
          rw [HV.out] at cL3
          obtain ⟨XN, hXN⟩ : ∃ XN, XN = (X2 k).set i (.int .i64 y) := ⟨_, rfl⟩
          have ON := Lib.hid (show World.ownsRow _ _ _ _ _ _ XN by rw [hXN]; exact (OK2.out.stored i (.int .i64 y)).1)
          have GN := Lib.hid hG
          have HXN := Lib.hid (show XN.take ((i + 1) * 1) = (X2 k).take (i * 1) ++ [.int .i64 y] by
            have hl2 := HLen.out
            rw [hXN, Nat.mul_one, Nat.mul_one, List.take_add_one, List.getElem?_set_self (by omega), List.take_set_of_le (Nat.le_refl _)]
            rfl)
          clear hG hXN
          refine ⟨cL3, ?_⟩
          refine qs_nil ?_
          go_wp2
          go_roundg (gk - 1)
          case measure => omega
          case rel =>
            refine ⟨i + 1, updV X2 k XN, by omega, by go_num, F2.out.turnF HA.out hkK (by rw [HV.out]; rfl) GN.out (by rw [HV.out]; exact ON.out), fun j hj => by rw [updV_else X2 k _ (show j ≠ k by omega)]; exact X2D.out j hj, ?_, LL2.out.kept GN.out (fun e => by
                injection e with e
                exact LL.out.ne hREF (F.out k hkK) (by rw [HV.out, ← e]; rfl)), B2.out.turn (F2.out k hkK) (by rw [HV.out]; rfl) GN.out⟩
            rw [updV_same, HXN.out, mksG_succ, X2T.out, HMK.out]
        · obtain rfl : i = n k := by omega
          have hX : X2 k = mksG mkF k (n k) := by
            have := X2T.out
            rwa [List.take_of_length_le (by have := (F.out k hkK).1; omega)] at this
          have HX := Lib.hid hX
          clear hX
          go_wp2
          go_roundg (go - 1)
          case measure => omega
          case rel => exact ⟨k + 1, X2, by omega, by go_num, F.out, fun j hj => by
            rcases Nat.lt_or_ge j k with h | h
            · exact X2D.out j h
            · obtain rfl : j = k := by omega
              exact HX.out, LL.out, B.out⟩
    · obtain rfl : K = k := by omega
      have F0 := Lib.hid (show FamG 50 1 wr base K V n (fun j => mksG mkF j (n j)) from fun j hj => by have := F.out j hj; rwa [X1D.out j hj] at this)
      clear F X1D
      go_wp2_with (refine mk_rowsF rfl (.tmp 41) (.tmp 41) rfl K _ _ rfl rfl rfl rfl hK ?_; intro w1 hl1 hg1; have G1 := Lib.hid hl1; have N1 := Lib.hid hg1; clear hl1 hg1)
      have HLG : L ≠ wr.heap.size := by have := LL.out.lt; omega
      have S1 := Lib.hid (show StG 50 25 1 mkF w1 base L wr.heap.size K V n (fun j => mksG mkF j (n j + 64)) 0 (fun _ => .slice none 0 0) from
        ⟨F0.out.kept N1.out (fun b hb => by cases hb), LL.out.kept N1.out (fun e => by cases e), G1.out, fun j hj => absurd hj (by omega), fun i j hi hj => absurd hj (by omega), fun i j hi => absurd hi (by omega)⟩)
      have B1 := Lib.hid (B.out.none N1.out)
      obtain ⟨Gb, hGb⟩ : ∃ Gb, Gb = wr.heap.size := ⟨_, rfl⟩
      rw [← hGb] at S1 HLG ⊢
      have hGb2 : w.heap.size ≤ Gb := by have := B.out.1.size; omega
      clear F0 LL B G1 N1 hGb
      -- P3(
      go_loopg [6] K (FGG 50 25 1 mkF w base L Gb K V n (fun j => mksG mkF j (n j + 64)))
      case atStart => exact ⟨0, _, by omega, rfl, S1.out, B1.out⟩
      case round =>
        clear S1 B1
        obtain ⟨k, G, hk, rfl, hs, hb'⟩ := hrel
        have S := Lib.hid hs
        have B := Lib.hid hb'
        clear hs hb'
        by_cases hkK : k < K
        · have hkI : (k : Int) < K := by omega
          have cL := S.out.2.1.cell hkK
          obtain ⟨A, c, hV, _⟩ := own_slice (S.out.1 k hkK)
          rw [hV] at cL
          have HV := Lib.hid hV
          obtain ⟨go, hgo⟩ : ∃ go, go = gk := ⟨_, rfl⟩
          rw [← hgo] at hk
          have hnk := HN.out k hkK
          clear hV
          go_wp2
          go_loopg [7, 8] 64 (Pf4G 50 25 1 mkF w base L Gb K V n (fun j => mksG mkF j (n j + 64)) k G)
          case atStart =>
            have hst := GvG.start S.out hkK HA.out
            have ho := S.out.1 k hkK
            rw [HV.out] at hst ho
            exact ⟨0, by omega, rfl, S.out, hst, ho, B.out⟩
          case round =>
            clear S B cL
            obtain ⟨i, hi, rfl, hs, hgv, ho, hb'⟩ := hrel
            have S := Lib.hid hs
            have GV := Lib.hid hgv
            have O := Lib.hid ho
            have B := Lib.hid hb'
            have cL := S.out.2.1.cell hkK
            rw [HV.out] at cL
            clear hs hgv ho hb'
            by_cases hik : i < 64
            · have hikI : (i : Int) < 64 := by omega
              have hsum := Lib.hid (show (n k : Int) + (i : Int) = ((n k + i : Nat) : Int) by omega)
              have MK := Lib.hid (fun wz => markFate_any k ((n k + i : Nat) : Int) wz (by omega) (by omega))
              go_wp2_with (go_at_call 90; refine heldW ?_)
              unfold HeldW
              rw [hsum.out]
              refine (MK.out _).mono ?_
              rintro ev w2 ⟨rfl, hb2⟩
              have S2 := Lib.hid (S.out.below hb2)
              have O2 := Lib.hid (own_belowG O.out hb2)
              have B2 := Lib.hid (B.out.below hb2)
              clear hb2 S O B
              go_wp2_with (refine app_fineG rfl (.tmp 57) (.tmp 67) 25 rfl base 50 _ 1 8 (by decide) Tryz.underlying25 infoFate rfl _ (n k + i) _ rfl (O2.out.alloc _) _ 1 (mkF k (n k + i)) rfl (src8 _ _ _) (oneF _ _) (by omega) (by omega) (by omega) (by have := B2.out.le; simp; omega) ?_; intro v3 w3 ho3 hf3; have O3 := Lib.hid ho3; have FN3 := Lib.hid hf3; clear ho3 hf3)
              have hst := StG.app hREF (S2.out.below ((Below.refl _ _).alloc (Nat.le_refl _) _)) hkK GV.out (O2.out.alloc _) (by omega) (mksG_take lmkF _ _ _ (by omega)) O3.out FN3.out
              have SS := Lib.hid hst
              have B3 := Lib.hid (BelG.app (B2.out.below ((Below.refl _ _).alloc (Nat.le_refl _) _)) (O2.out.alloc _) FN3.out)
              clear hst
              go_roundg (gk - 1)
              case measure => omega
              case rel =>
                refine ⟨i + 1, by omega, by go_num, SS.out.1, SS.out.2, ?_, B3.out⟩
                rw [show n k + (i + 1) = n k + i + 1 from rfl, mksG_succ]
                exact O3.out
            · obtain rfl : i = 64 := by omega
              obtain ⟨A3, c3, hv3, _⟩ := own_slice O.out
              subst hv3
              have hG := S.out.2.2.1.cell hkK
              have fG := S.out.2.2.1.free k
              go_wp2
              go_roundg (go - 1)
              case measure => omega
              case rel =>
                exact ⟨k + 1, updV G k _, by omega, by go_num, S.out.lay hREF hkK GV.out O.out HLG, B.out.putNew hGb2 _ _⟩
        · obtain rfl : K = k := by omega
          obtain ⟨w3, hw3⟩ : ∃ w3, w3 = wr := ⟨_, rfl⟩
          rw [← hw3] at S B ⊢
          clear hw3
          -- P4(
          go_wp2
          go_loopg [9] K (ROG K w3)
          case atStart => exact ⟨0, by omega, rfl, Below.refl _ _⟩
          case round =>
            obtain ⟨k, hk, rfl, hbr⟩ := hrel
            have SR := Lib.hid (S.out.below hbr)
            have HBR := Lib.hid hbr
            clear hbr
            by_cases hkK : k < K
            · have hkI : (k : Int) < K := by omega
              have cG := SR.out.2.2.1.cell hkK
              obtain ⟨A, c, hGk, _⟩ := own_slice (SR.out.2.2.2.1 k hkK)
              rw [hGk] at cG
              have HGk := Lib.hid hGk
              obtain ⟨go, hgo⟩ : ∃ go, go = gk := ⟨_, rfl⟩
              rw [← hgo] at hk
              have hnk := HN.out k hkK
              clear hGk
              go_wp2
              go_loopg [10] (n k + 64) (ROG (n k + 64) w3)
              case atStart => exact ⟨0, by omega, rfl, HBR.out⟩
              case round =>
                clear cG SR HBR
                obtain ⟨i, hi, rfl, hbr⟩ := hrel
                have SR := Lib.hid (S.out.below hbr)
                have HBR := Lib.hid hbr
                clear hbr
                have cG := SR.out.2.2.1.cell hkK
                rw [HGk.out] at cG
                by_cases hik : i < n k + 64
                · have hikI : (i : Int) < (n k : Int) + 64 := by omega
                  have hok := SR.out.2.2.2.1 k hkK
                  rw [HGk.out] at hok
                  obtain ⟨g, cc, hv, hbg, hlt2⟩ := hok.form (show 0 < n k + 64 by omega)
                  injection hv with hv hv2 hv3
                  subst hv hv3
                  have OK := Lib.hid hok
                  have cL := SR.out.2.1.cell hkK
                  obtain ⟨A2, c2, hVk, _⟩ := own_slice (SR.out.1 k hkK)
                  rw [hVk] at cL
                  have HVk := Lib.hid hVk
                  have MK := Lib.hid (fun wz => markFate_any k i wz (by omega) (by omega))
                  clear hok hVk
                  by_cases hin : i < n k
                  · have hinI : (i : Int) < (n k : Int) := by omega
                    have hok2 := SR.out.1 k hkK
                    rw [HVk.out] at hok2
                    obtain ⟨g2, cc2, hv, _, _⟩ := hok2.form (by omega)
                    injection hv with hv hv2 hv3
                    subst hv hv3
                    have OK2 := Lib.hid hok2
                    clear hok2
                    have din : decide ((i : Int) < (n k : Int)) = true := by simpa using hin
                    have din' : decide (i < n k) = true := by simpa using hin
                    obtain ⟨y, hy⟩ : ∃ y, y = mfv (k : Int) (i : Int) := ⟨_, rfl⟩
                    have q1 := OK.out.cellAt i (by omega)
                    rw [show i = i * 1 + 0 by omega, mksG_get lmkF k _ i 0 hik (by omega)] at q1
                    simp only [mkF, List.getElem?_cons_zero, ← hy, Nat.mul_one, Nat.add_zero] at q1
                    have q2 := OK2.out.cellAt i (by omega)
                    rw [show i = i * 1 + 0 by omega, mksG_get lmkF k _ i 0 hin (by omega)] at q2
                    simp only [mkF, List.getElem?_cons_zero, ← hy, Nat.mul_one, Nat.add_zero] at q2
                    rw [← hy] at MK
                    have dy : (y == y) = true := by simp
                    clear hy
                    go_wp2
                    refine wp_region_qs (fun jj w' => w'.cell? ⟨Gb, k, none⟩ = some (.slice (some ⟨g, 0, none⟩) (n k + 64) c) ∧ w'.cell? ⟨g, i, none⟩ = some (.int .i64 y) ∧ w'.cell? ⟨L, k, none⟩ = some (.slice (some ⟨g2, 0, none⟩) (n k) c2) ∧ w'.cell? ⟨g2, i, none⟩ = some (.int .i64 y)) [(0, some 2), (1, some 2), (2, some 2), (3, some 2), (4, some 2), (5, some 2), (6, some 2), (7, some 1), (8, some 1), (9, none), (10, some 2), (11, some 2), (12, some 2), (13, some 2), (14, some 2), (15, some 2), (16, some 2), (17, some 2), (18, some 2), (19, some 2), (20, some 1), (21, some 2), (22, some 2), (23, some 2), (24, some 2), (25, some 2), (26, some 2), (27, some 2), (28, some 1), (29, some 1), (30, none), (31, some 2), (32, some 2), (33, some 2), (34, some 2)] (by kernel_rfl) (by kernel_rfl) (by kernel_rfl) (by kernel_rfl) (by kernel_rfl) (fun _ _ _ _ _ h => h) ⟨cG, q1, cL, q2⟩ ?_
                    simp only [List.map_cons, List.map_nil, List.getD_cons_succ, List.getD_cons_zero]
                    (repeat (first | (refine qs_now (v := ?_) (by rfl) ?_ ?_; rotate_left 1; (· (intro w' hS; go_simp; (try (simp only [↓IntWalk.iteOmega]; go_simp)); (try simp (disch := omega) only [IntWalk.i64_in]); try with_reducible rfl)); simp only [Act.put, List.setIfInBounds_toArray, List.set_cons_zero, List.set_cons_succ]) | (refine qs_run (v := ?_) (by rfl) ?_ ?_; rotate_left 1; (· (intro j w' hS; go_simp; (try (simp only [↓IntWalk.iteOmega]; go_simp)); (try simp (disch := omega) only [IntWalk.i64_in]); try with_reducible rfl)); simp only [Act.put, List.setIfInBounds_toArray, List.set_cons_zero, List.set_cons_succ]) | (refine qs_mid (v := ?_) (by rfl) ?_ ?_; rotate_left 1; (· (intro j w' hj1 hj2 hS; go_simp; (try (simp only [↓IntWalk.iteOmega]; go_simp)); (try simp (disch := omega) only [IntWalk.i64_in]); try with_reducible rfl)); simp only [Act.put, List.setIfInBounds_toArray, List.set_cons_zero, List.set_cons_succ]) | (refine qs_skip (by rfl) ?_; simp only [Act.put, List.setIfInBounds_toArray, List.set_cons_zero, List.set_cons_succ])))
                    refine qs_act ?_
                    go_wp2_with fail
                    refine (MK.out _).mono ?_
                    rintro ev w2 ⟨rfl, hb2⟩
                    have hb3 : Below wr.heap.size wr w2 := (Below.refl _ _).drew.trans hb2
                    go_wp2
                    refine ⟨⟨cell_low cG hb3, cell_low q1 hb3, cell_low cL hb3, cell_low q2 hb3⟩, ?_⟩
                    (repeat (first | (refine qs_now (v := ?_) (by rfl) ?_ ?_; rotate_left 1; (· (intro w' hS; go_simp; (try (simp only [↓IntWalk.iteOmega]; go_simp)); (try simp (disch := omega) only [IntWalk.i64_in]); try with_reducible rfl)); simp only [Act.put, List.setIfInBounds_toArray, List.set_cons_zero, List.set_cons_succ]) | (refine qs_run (v := ?_) (by rfl) ?_ ?_; rotate_left 1; (· (intro j w' hS; go_simp; (try (simp only [↓IntWalk.iteOmega]; go_simp)); (try simp (disch := omega) only [IntWalk.i64_in]); try with_reducible rfl)); simp only [Act.put, List.setIfInBounds_toArray, List.set_cons_zero, List.set_cons_succ]) | (refine qs_mid (v := ?_) (by rfl) ?_ ?_; rotate_left 1; (· (intro j w' hj1 hj2 hS; go_simp; (try (simp only [↓IntWalk.iteOmega]; go_simp)); (try simp (disch := omega) only [IntWalk.i64_in]); try with_reducible rfl)); simp only [Act.put, List.setIfInBounds_toArray, List.set_cons_zero, List.set_cons_succ]) | (refine qs_skip (by rfl) ?_; simp only [Act.put, List.setIfInBounds_toArray, List.set_cons_zero, List.set_cons_succ])))
                    refine qs_act ?_
                    go_wp2_with fail
                    refine (MK.out _).mono ?_
                    rintro ev w4 ⟨rfl, hb4⟩
                    have hb5 := below_chain hb3 hb4
                    go_wp2
                    refine ⟨⟨cell_low cG hb5, cell_low q1 hb5, cell_low cL hb5, cell_low q2 hb5⟩, ?_⟩
                    (repeat (first | (refine qs_now (v := ?_) (by rfl) ?_ ?_; rotate_left 1; (· (intro w' hS; go_simp; (try (simp only [↓IntWalk.iteOmega]; go_simp)); (try simp (disch := omega) only [IntWalk.i64_in]); try with_reducible rfl)); simp only [Act.put, List.setIfInBounds_toArray, List.set_cons_zero, List.set_cons_succ]) | (refine qs_run (v := ?_) (by rfl) ?_ ?_; rotate_left 1; (· (intro j w' hS; go_simp; (try (simp only [↓IntWalk.iteOmega]; go_simp)); (try simp (disch := omega) only [IntWalk.i64_in]); try with_reducible rfl)); simp only [Act.put, List.setIfInBounds_toArray, List.set_cons_zero, List.set_cons_succ]) | (refine qs_mid (v := ?_) (by rfl) ?_ ?_; rotate_left 1; (· (intro j w' hj1 hj2 hS; go_simp; (try (simp only [↓IntWalk.iteOmega]; go_simp)); (try simp (disch := omega) only [IntWalk.i64_in]); try with_reducible rfl)); simp only [Act.put, List.setIfInBounds_toArray, List.set_cons_zero, List.set_cons_succ]) | (refine qs_skip (by rfl) ?_; simp only [Act.put, List.setIfInBounds_toArray, List.set_cons_zero, List.set_cons_succ])))
                    refine qs_nil ?_
                    go_wp2
                    go_roundg (gk - 1)
                    case measure => omega
                    case rel => exact ⟨i + 1, by omega, by go_num, below_chain HBR.out hb5⟩
                  · have hinI : ¬ (i : Int) < (n k : Int) := by omega
                    have din : decide ((i : Int) < (n k : Int)) = false := by simpa using hin
                    have din' : decide (i < n k) = false := by simpa using hin
                    obtain ⟨y, hy⟩ : ∃ y, y = mfv (k : Int) (i : Int) := ⟨_, rfl⟩
                    have q1 := OK.out.cellAt i (by omega)
                    rw [show i = i * 1 + 0 by omega, mksG_get lmkF k _ i 0 hik (by omega)] at q1
                    simp only [mkF, List.getElem?_cons_zero, ← hy, Nat.mul_one, Nat.add_zero] at q1
                    rw [← hy] at MK
                    have dy : (y == y) = true := by simp
                    clear hy
                    go_wp2
                    refine wp_region_qs (fun jj w' => w'.cell? ⟨Gb, k, none⟩ = some (.slice (some ⟨g, 0, none⟩) (n k + 64) c) ∧ w'.cell? ⟨g, i, none⟩ = some (.int .i64 y) ∧ w'.cell? ⟨L, k, none⟩ = some (.slice A2 (n k) c2)) [(0, some 2), (1, some 2), (2, some 2), (3, some 2), (4, some 2), (5, some 2), (6, some 2), (7, some 1), (8, some 1), (9, none), (10, some 2), (11, some 2), (12, some 2), (13, some 2), (14, some 2), (15, some 2), (16, some 2), (17, some 2), (18, some 2), (19, some 2), (20, some 1), (21, some 2), (22, some 2), (23, some 2), (24, some 2), (25, some 2), (26, some 2), (27, some 2), (28, some 1), (29, some 1), (30, none), (31, some 2), (32, some 2), (33, some 2), (34, some 2)] (by kernel_rfl) (by kernel_rfl) (by kernel_rfl) (by kernel_rfl) (by kernel_rfl) (fun _ _ _ _ _ h => h) ⟨cG, q1, cL⟩ ?_
                    simp only [List.map_cons, List.map_nil, List.getD_cons_succ, List.getD_cons_zero]
                    (repeat (first | (refine qs_now (v := ?_) (by rfl) ?_ ?_; rotate_left 1; (· (intro w' hS; go_simp; (try (simp only [↓IntWalk.iteOmega]; go_simp)); (try simp (disch := omega) only [IntWalk.i64_in]); try with_reducible rfl)); simp only [Act.put, List.setIfInBounds_toArray, List.set_cons_zero, List.set_cons_succ]) | (refine qs_run (v := ?_) (by rfl) ?_ ?_; rotate_left 1; (· (intro j w' hS; go_simp; (try (simp only [↓IntWalk.iteOmega]; go_simp)); (try simp (disch := omega) only [IntWalk.i64_in]); try with_reducible rfl)); simp only [Act.put, List.setIfInBounds_toArray, List.set_cons_zero, List.set_cons_succ]) | (refine qs_mid (v := ?_) (by rfl) ?_ ?_; rotate_left 1; (· (intro j w' hj1 hj2 hS; go_simp; (try (simp only [↓IntWalk.iteOmega]; go_simp)); (try simp (disch := omega) only [IntWalk.i64_in]); try with_reducible rfl)); simp only [Act.put, List.setIfInBounds_toArray, List.set_cons_zero, List.set_cons_succ]) | (refine qs_skip (by rfl) ?_; simp only [Act.put, List.setIfInBounds_toArray, List.set_cons_zero, List.set_cons_succ])))
                    refine qs_act ?_
                    go_wp2_with fail
                    refine (MK.out _).mono ?_
                    rintro ev w2 ⟨rfl, hb2⟩
                    have hb3 : Below wr.heap.size wr w2 := (Below.refl _ _).drew.trans hb2
                    go_wp2
                    refine ⟨⟨cell_low cG hb3, cell_low q1 hb3, cell_low cL hb3⟩, ?_⟩
                    (repeat (first | (refine qs_now (v := ?_) (by rfl) ?_ ?_; rotate_left 1; (· (intro w' hS; go_simp; (try (simp only [↓IntWalk.iteOmega]; go_simp)); (try simp (disch := omega) only [IntWalk.i64_in]); try with_reducible rfl)); simp only [Act.put, List.setIfInBounds_toArray, List.set_cons_zero, List.set_cons_succ]) | (refine qs_run (v := ?_) (by rfl) ?_ ?_; rotate_left 1; (· (intro j w' hS; go_simp; (try (simp only [↓IntWalk.iteOmega]; go_simp)); (try simp (disch := omega) only [IntWalk.i64_in]); try with_reducible rfl)); simp only [Act.put, List.setIfInBounds_toArray, List.set_cons_zero, List.set_cons_succ]) | (refine qs_mid (v := ?_) (by rfl) ?_ ?_; rotate_left 1; (· (intro j w' hj1 hj2 hS; go_simp; (try (simp only [↓IntWalk.iteOmega]; go_simp)); (try simp (disch := omega) only [IntWalk.i64_in]); try with_reducible rfl)); simp only [Act.put, List.setIfInBounds_toArray, List.set_cons_zero, List.set_cons_succ]) | (refine qs_skip (by rfl) ?_; simp only [Act.put, List.setIfInBounds_toArray, List.set_cons_zero, List.set_cons_succ])))
                    refine qs_act ?_
                    go_wp2
                    refine ⟨⟨cell_low cG hb3, cell_low q1 hb3, cell_low cL hb3⟩, ?_⟩
                    (repeat (first | (refine qs_now (v := ?_) (by rfl) ?_ ?_; rotate_left 1; (· (intro w' hS; go_simp; (try (simp only [↓IntWalk.iteOmega]; go_simp)); (try simp (disch := omega) only [IntWalk.i64_in]); try with_reducible rfl)); simp only [Act.put, List.setIfInBounds_toArray, List.set_cons_zero, List.set_cons_succ]) | (refine qs_run (v := ?_) (by rfl) ?_ ?_; rotate_left 1; (· (intro j w' hS; go_simp; (try (simp only [↓IntWalk.iteOmega]; go_simp)); (try simp (disch := omega) only [IntWalk.i64_in]); try with_reducible rfl)); simp only [Act.put, List.setIfInBounds_toArray, List.set_cons_zero, List.set_cons_succ]) | (refine qs_mid (v := ?_) (by rfl) ?_ ?_; rotate_left 1; (· (intro j w' hj1 hj2 hS; go_simp; (try (simp only [↓IntWalk.iteOmega]; go_simp)); (try simp (disch := omega) only [IntWalk.i64_in]); try with_reducible rfl)); simp only [Act.put, List.setIfInBounds_toArray, List.set_cons_zero, List.set_cons_succ]) | (refine qs_skip (by rfl) ?_; simp only [Act.put, List.setIfInBounds_toArray, List.set_cons_zero, List.set_cons_succ])))
                    refine qs_nil ?_
                    go_wp2
                    go_roundg (gk - 1)
                    case measure => omega
                    case rel => exact ⟨i + 1, by omega, by go_num, below_chain HBR.out hb3⟩
                · obtain rfl : i = n k + 64 := by omega
                  go_wp2
                  go_roundg (go - 1)
                  case measure => omega
                  case rel => exact ⟨k + 1, by omega, by go_num, HBR.out⟩
            · obtain rfl : K = k := by omega
              -- P5(
              obtain ⟨wd, hwd⟩ : ∃ wd, wd = wr := ⟨_, rfl⟩
              rw [← hwd]
              have SD := Lib.hid (show StG 50 25 1 mkF wd base L Gb K V n (fun j => mksG mkF j (n j) ++ mksG mkF (j + K) 64) 0 G from
                ⟨fun j hj => by rw [hwd]; exact SR.out.1 j hj, by rw [hwd]; exact SR.out.2.1, by rw [hwd]; exact SR.out.2.2.1, fun j hj => absurd hj (by omega), fun i j hi hj => absurd hj (by omega), fun i j hi => absurd hi (by omega)⟩)
              have BD := Lib.hid (show BelG 50 base w wd by rw [hwd]; exact B.out.below HBR.out)
              clear S B SR HBR hwd
              go_wp2
              go_loopg [11] K (FGG 50 25 1 mkF w base L Gb K V n (fun j => mksG mkF j (n j) ++ mksG mkF (j + K) 64))
              case atStart => exact ⟨0, G, by omega, rfl, SD.out, BD.out⟩
              case round =>
                clear SD BD
                obtain ⟨k, G, hk, rfl, hs, hb'⟩ := hrel
                have S := Lib.hid hs
                have B := Lib.hid hb'
                clear hs hb'
                by_cases hkK : k < K
                · have hkI : (k : Int) < K := by omega
                  obtain ⟨go, hgo⟩ : ∃ go, go = gk := ⟨_, rfl⟩
                  rw [← hgo] at hk
                  have hnk := HN.out k hkK
                  go_wp2_with (refine mk_fates rfl (.const (.int .i64 64)) (.const (.int .i64 64)) rfl wr.heap.size 64 _ _ rfl rfl rfl rfl (by omega) (Nat.le_refl _) ?_; intro w4 ho4 hg4; have O4 := Lib.hid ho4; have N4 := Lib.hid hg4; clear ho4 hg4)
                  obtain ⟨M, hM⟩ : ∃ M, M = wr.heap.size := ⟨_, rfl⟩
                  rw [← hM] at O4 ⊢
                  have B4 := Lib.hid (show Below M wr w4 by rw [hM]; exact bl_n (Below.refl _ _) N4.out)
                  have HM := Lib.hid hM
                  clear hM N4
                  go_loopg [13] 64 (Pf7G 50 1 mkF wr M (k + K))
                  case atStart => exact ⟨0, _, by omega, rfl, O4.out, by simp [mksG], B4.out⟩
                  case round =>
                    clear O4 B4
                    obtain ⟨i, z, hi, rfl, ho, hz, hbz⟩ := hrel
                    have O := Lib.hid ho
                    have HZ := Lib.hid hz
                    have BZ := Lib.hid hbz
                    clear ho hz hbz
                    by_cases hik : i < 64
                    · have hikI : (i : Int) < 64 := by omega
                      have hsum := Lib.hid (show (k : Int) + (K : Int) = ((k + K : Nat) : Int) by omega)
                      have MK := Lib.hid (fun wz => markFate_any ((k + K : Nat) : Int) (i : Int) wz (by omega) (by omega))
                      obtain ⟨y, hy⟩ : ∃ y, y = mfv ((k + K : Nat) : Int) (i : Int) := ⟨_, rfl⟩
                      have HY := Lib.hid hy
                      rw [← hy] at MK
                      clear hy
                      go_wp2_with (go_at_call 90; refine heldW ?_)
                      unfold HeldW
                      rw [hsum.out]
                      refine (MK.out _).mono ?_
                      rintro ev w2 ⟨rfl, hb2⟩
                      have O2 := Lib.hid (own_belowG O.out hb2)
                      have BZ2 := Lib.hid (BZ.out.trans (hb2.mono (by have h1 := HM.out; have h2 := BZ.out.size; omega)))
                      clear hb2
                      have q2 := O2.out.frozenAt i
                      have hlen : z.length = 64 := by have := O2.out.1; simpa using this
                      have q1 := O2.out.cellAt i (by omega)
                      rw [List.getElem?_eq_getElem (by omega)] at q1
                      have HMK := Lib.hid (show mkF (k + K) i = [.int .i64 y] by unfold mkF; rw [HY.out])
                      have ON := Lib.hid ((O2.out.stored i (.int .i64 y)).1)
                      have HZN := Lib.hid (show (z.set i (.int .i64 y)).take ((i + 1) * 1) = z.take (i * 1) ++ [.int .i64 y] by
                        rw [Nat.mul_one, Nat.mul_one, List.take_add_one, List.getElem?_set_self (by omega), List.take_set_of_le (Nat.le_refl _)]
                        rfl)
                      have LN := Lib.hid (bel_put BZ2.out (Nat.le_refl M) i (.int .i64 y))
                      generalize z.set i (.int .i64 y) = ZN at *
                      generalize z[i]'(by omega) = x at *
                      clear hlen
                      go_wp2
                      go_roundg (gk - 1)
                      case measure => omega
                      case rel =>
                        exact ⟨i + 1, ZN, by omega, by go_num, ON.out, by rw [HZN.out, mksG_succ, HZ.out, HMK.out], LN.out⟩
                    · obtain rfl : i = 64 := by omega
                      have hz64 : z = mksG mkF (k + K) 64 := by
                        have := HZ.out
                        rwa [List.take_of_length_le (by have := O.out.1; omega)] at this
                      rw [hz64] at O
                      have SZ := Lib.hid (S.out.below (by rw [← HM.out]; exact BZ.out))
                      have BB := Lib.hid (B.out.below (by rw [← HM.out]; exact BZ.out))
                      clear HZ hz64
                      have cL := SZ.out.2.1.cell hkK
                      obtain ⟨A, c, hV, _⟩ := own_slice (SZ.out.1 k hkK)
                      have oV := SZ.out.1 k hkK
                      have gV := GvG.start SZ.out hkK HA.out
                      rw [hV] at cL oV gV
                      have OV := Lib.hid oV
                      have GV := Lib.hid gV
                      have fG := SZ.out.2.2.1.free k
                      clear hV oV gV
                      go_wp2_with (refine app_fineG rfl (.tmp 148) (.tmp 149) 25 rfl base 50 _ 1 8 (by decide) Tryz.underlying25 infoFate rfl _ (n k) _ rfl OV.out _ 64 _ rfl (Src.of_own O.out) (onesF _ _) (by omega) (by omega) (by omega) BB.out.le ?_; intro v2 w2 ho2 hf2; obtain ⟨A2, c2, hv2, _⟩ := own_slice ho2; subst hv2; have hst := StG.app hREF SZ.out hkK GV.out OV.out (Nat.le_refl _) (mksG_take lmkF _ _ _ (Nat.le_refl _)) (ys := mksG mkF (k + K) 64) ho2 hf2; have cG := hst.1.2.2.1.cell hkK; have fG2 := hst.1.2.2.1.free k; have S2 := Lib.hid hst; have O2 := Lib.hid ho2; have FN2 := Lib.hid hf2; clear ho2 hf2 hst)
                      have B2 := Lib.hid (BelG.app BB.out OV.out FN2.out)
                      go_roundg (go - 1)
                      case measure => omega
                      case rel =>
                        exact ⟨k + 1, updV G k _, by omega, by go_num, S2.out.1.lay hREF hkK S2.out.2 O2.out HLG, B2.out.putNew hGb2 _ _⟩
                · obtain rfl : K = k := by omega
                  obtain ⟨w5, hw5⟩ : ∃ w5, w5 = wr := ⟨_, rfl⟩
                  rw [← hw5] at S B ⊢
                  clear hw5
                  go_wp2
                  go_loopg [14] K (ROG K w5)
                  case atStart => exact ⟨0, by omega, rfl, Below.refl _ _⟩
                  case round =>
                    obtain ⟨k, hk, rfl, hbr⟩ := hrel
                    have SR := Lib.hid (S.out.below hbr)
                    have HBR := Lib.hid hbr
                    clear hbr
                    by_cases hkK : k < K
                    · have hkI : (k : Int) < K := by omega
                      have cL := SR.out.2.1.cell hkK
                      obtain ⟨A, c, hVk, _⟩ := own_slice (SR.out.1 k hkK)
                      rw [hVk] at cL
                      have HVk := Lib.hid hVk
                      obtain ⟨go, hgo⟩ : ∃ go, go = gk := ⟨_, rfl⟩
                      rw [← hgo] at hk
                      have hnk := HN.out k hkK
                      clear hVk
                      go_wp2
                      go_loopg [15] (n k) (ROG (n k) w5)
                      case atStart => exact ⟨0, by omega, rfl, HBR.out⟩
                      case round =>
                        clear cL SR HBR
                        obtain ⟨i, hi, rfl, hbr⟩ := hrel
                        have SR := Lib.hid (S.out.below hbr)
                        have HBR := Lib.hid hbr
                        clear hbr
                        have cL := SR.out.2.1.cell hkK
                        rw [HVk.out] at cL
                        by_cases hik : i < n k
                        · have hikI : (i : Int) < (n k : Int) := by omega
                          have hok := SR.out.1 k hkK
                          rw [HVk.out] at hok
                          obtain ⟨g, cc, hv, hbg, hlt2⟩ := hok.form (by omega)
                          injection hv with hv hv2 hv3
                          subst hv hv3
                          have OK := Lib.hid hok
                          have cG := SR.out.2.2.1.cell hkK
                          obtain ⟨A2, c2, hGk, _⟩ := own_slice (SR.out.2.2.2.1 k hkK)
                          have hok2 := SR.out.2.2.2.1 k hkK
                          rw [hGk] at cG hok2
                          obtain ⟨g2, cc2, hv, _, _⟩ := hok2.form (show 0 < n k + 64 by omega)
                          injection hv with hv hv2 hv3
                          subst hv hv3
                          have OK2 := Lib.hid hok2
                          have MK := Lib.hid (fun wz => markFate_any k i wz (by omega) (by omega))
                          have hik2 : i < n k + 64 := by omega
                          clear hok hGk hok2
                          obtain ⟨y, hy⟩ : ∃ y, y = mfv (k : Int) (i : Int) := ⟨_, rfl⟩
                          have q1 := OK.out.cellAt i (by omega)
                          rw [show i = i * 1 + 0 by omega, mksG_get lmkF k _ i 0 hik (by omega)] at q1
                          simp only [mkF, List.getElem?_cons_zero, ← hy, Nat.mul_one, Nat.add_zero] at q1
                          have q2 := OK2.out.cellAt i (show i < (n k + 64) * 1 by omega)
                          rw [List.getElem?_append_left (by rw [mksG_len lmkF]; omega), show i = i * 1 + 0 by omega, mksG_get lmkF k _ i 0 hik (by omega)] at q2
                          simp only [mkF, List.getElem?_cons_zero, ← hy, Nat.mul_one, Nat.add_zero] at q2
                          rw [← hy] at MK
                          have dy : (y == y) = true := by simp
                          clear hy
                          go_wp2
                          refine wp_region_qs (fun jj w' => w'.cell? ⟨Gb, k, none⟩ = some (.slice (some ⟨g2, 0, none⟩) (n k + 64) c2) ∧ w'.cell? ⟨g2, i, none⟩ = some (.int .i64 y) ∧ w'.cell? ⟨L, k, none⟩ = some (.slice (some ⟨g, 0, none⟩) (n k) c) ∧ w'.cell? ⟨g, i, none⟩ = some (.int .i64 y)) [(0, some 2), (1, some 2), (2, some 2), (3, some 2), (4, some 2), (5, some 2), (6, some 2), (7, some 1), (8, some 1), (9, none), (10, some 2), (11, some 2), (12, some 1), (13, some 2), (14, some 2), (15, some 2), (16, some 2), (17, some 2), (18, some 2), (19, some 2), (20, some 1), (21, some 1), (22, none), (23, some 2), (24, some 2), (25, some 2)] (by kernel_rfl) (by kernel_rfl) (by kernel_rfl) (by kernel_rfl) (by kernel_rfl) (fun _ _ _ _ _ h => h) ⟨cG, q2, cL, q1⟩ ?_
                          simp only [List.map_cons, List.map_nil, List.getD_cons_succ, List.getD_cons_zero]
                          (repeat (first | (refine qs_now (v := ?_) (by rfl) ?_ ?_; rotate_left 1; (· (intro w' hS; go_simp; (try (simp only [↓IntWalk.iteOmega]; go_simp)); (try simp (disch := omega) only [IntWalk.i64_in]); try with_reducible rfl)); simp only [Act.put, List.setIfInBounds_toArray, List.set_cons_zero, List.set_cons_succ]) | (refine qs_run (v := ?_) (by rfl) ?_ ?_; rotate_left 1; (· (intro j w' hS; go_simp; (try (simp only [↓IntWalk.iteOmega]; go_simp)); (try simp (disch := omega) only [IntWalk.i64_in]); try with_reducible rfl)); simp only [Act.put, List.setIfInBounds_toArray, List.set_cons_zero, List.set_cons_succ]) | (refine qs_mid (v := ?_) (by rfl) ?_ ?_; rotate_left 1; (· (intro j w' hj1 hj2 hS; go_simp; (try (simp only [↓IntWalk.iteOmega]; go_simp)); (try simp (disch := omega) only [IntWalk.i64_in]); try with_reducible rfl)); simp only [Act.put, List.setIfInBounds_toArray, List.set_cons_zero, List.set_cons_succ]) | (refine qs_skip (by rfl) ?_; simp only [Act.put, List.setIfInBounds_toArray, List.set_cons_zero, List.set_cons_succ])))
                          refine qs_act ?_
                          go_wp2_with fail
                          refine (MK.out _).mono ?_
                          rintro ev w2 ⟨rfl, hb2⟩
                          have hb3 : Below wr.heap.size wr w2 := (Below.refl _ _).drew.trans hb2
                          go_wp2
                          refine ⟨⟨cell_low cG hb3, cell_low q2 hb3, cell_low cL hb3, cell_low q1 hb3⟩, ?_⟩
                          (repeat (first | (refine qs_now (v := ?_) (by rfl) ?_ ?_; rotate_left 1; (· (intro w' hS; go_simp; (try (simp only [↓IntWalk.iteOmega]; go_simp)); (try simp (disch := omega) only [IntWalk.i64_in]); try with_reducible rfl)); simp only [Act.put, List.setIfInBounds_toArray, List.set_cons_zero, List.set_cons_succ]) | (refine qs_run (v := ?_) (by rfl) ?_ ?_; rotate_left 1; (· (intro j w' hS; go_simp; (try (simp only [↓IntWalk.iteOmega]; go_simp)); (try simp (disch := omega) only [IntWalk.i64_in]); try with_reducible rfl)); simp only [Act.put, List.setIfInBounds_toArray, List.set_cons_zero, List.set_cons_succ]) | (refine qs_mid (v := ?_) (by rfl) ?_ ?_; rotate_left 1; (· (intro j w' hj1 hj2 hS; go_simp; (try (simp only [↓IntWalk.iteOmega]; go_simp)); (try simp (disch := omega) only [IntWalk.i64_in]); try with_reducible rfl)); simp only [Act.put, List.setIfInBounds_toArray, List.set_cons_zero, List.set_cons_succ]) | (refine qs_skip (by rfl) ?_; simp only [Act.put, List.setIfInBounds_toArray, List.set_cons_zero, List.set_cons_succ])))
                          refine qs_act ?_
                          go_wp2_with fail
                          refine (MK.out _).mono ?_
                          rintro ev w4 ⟨rfl, hb4⟩
                          have hb5 := below_chain hb3 hb4
                          go_wp2
                          refine ⟨⟨cell_low cG hb5, cell_low q2 hb5, cell_low cL hb5, cell_low q1 hb5⟩, ?_⟩
                          (repeat (first | (refine qs_now (v := ?_) (by rfl) ?_ ?_; rotate_left 1; (· (intro w' hS; go_simp; (try (simp only [↓IntWalk.iteOmega]; go_simp)); (try simp (disch := omega) only [IntWalk.i64_in]); try with_reducible rfl)); simp only [Act.put, List.setIfInBounds_toArray, List.set_cons_zero, List.set_cons_succ]) | (refine qs_run (v := ?_) (by rfl) ?_ ?_; rotate_left 1; (· (intro j w' hS; go_simp; (try (simp only [↓IntWalk.iteOmega]; go_simp)); (try simp (disch := omega) only [IntWalk.i64_in]); try with_reducible rfl)); simp only [Act.put, List.setIfInBounds_toArray, List.set_cons_zero, List.set_cons_succ]) | (refine qs_mid (v := ?_) (by rfl) ?_ ?_; rotate_left 1; (· (intro j w' hj1 hj2 hS; go_simp; (try (simp only [↓IntWalk.iteOmega]; go_simp)); (try simp (disch := omega) only [IntWalk.i64_in]); try with_reducible rfl)); simp only [Act.put, List.setIfInBounds_toArray, List.set_cons_zero, List.set_cons_succ]) | (refine qs_skip (by rfl) ?_; simp only [Act.put, List.setIfInBounds_toArray, List.set_cons_zero, List.set_cons_succ])))
                          refine qs_nil ?_
                          go_wp2
                          go_roundg (gk - 1)
                          case measure => omega
                          case rel => exact ⟨i + 1, by omega, by go_num, below_chain HBR.out hb5⟩
                        · obtain rfl : i = n k := by omega
                          go_wp2
                          go_roundg (go - 1)
                          case measure => omega
                          case rel => exact ⟨k + 1, by omega, by go_num, HBR.out⟩
                    · obtain rfl : K = k := by omega
                      go_wp2
                      go_ret
                      exact ⟨rfl, B.out.below HBR.out⟩
              -- )P5
          -- )P4
      -- )P3
end Go.Proofs.YtfehgpjnlkgekaaGreatDoor
