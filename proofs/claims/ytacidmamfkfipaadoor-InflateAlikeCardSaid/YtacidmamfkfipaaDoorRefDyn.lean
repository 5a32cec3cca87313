/-
  The document's blocks with codes of their own.
-/
import Derived.Test.YtacidmamfkfipaaDoorRefLens
namespace Go.Proofs.YtacidmamfkfipaaDoor
open Go.RowKit
set_option linter.unusedVariables false

def RLensNo (base s : Nat) (bs out : List Int) (p : Nat) (most e : Int) (w : World) (ev : Ending) (w' : World) : Prop :=
  ev = .returned (.slice none 0 0) ∧ RefOk w' base s bs p out most e ∧ StStep w w' base s s
def RLenX (w1 : World) (k : Nat) (sv : Value) (wr : World) : Prop := sv = .slice none 0 0 ∧ wr = w1
set_option maxHeartbeats 800000 in
set_option maxRecDepth 100000 in
theorem rlengths_no (base s b : Nat) (bs : List Int) (p : Nat) (out : List Int) (most e : Int) (n : Nat) (w : World) (h : RefOk w base s bs p out most e) (he : e ≠ 0) (hn1 : 1 ≤ n) (hn : n ≤ 1000) :
    Calls Tryd.prog 64 #[.pointer (some ⟨s, 0, none⟩), .agg #[.map (some b)], .int .i64 (n : Int)] w (RLensNo base s bs out p most e w) := by
  have h3 := h.2.2.1
  have L1 := Lib.hid ((Below.refl w.heap.size w).alloc (Nat.le_refl _) (.cells #[.map (some b)] 117))
  have H := Lib.hid (h.below L1.out)
  have S1 := Lib.hid (StStep.of_below (s := s) (r := s) L1.out h3)
  have c4 := H.out.c4
  have d1 : (e == 0) = false := by simpa using he
  have hn0 : (0 : Int) < n := by omega
  clear h
  go_enter Tryd.func64, Tryd.ntmps64
  go_wp2
  go_loopg [7] 0 (RLenX (w.alloc (.cells #[.map (some b)] 117)))
  case atStart => exact ⟨rfl, rfl⟩
  case round =>
    obtain ⟨rfl, rfl⟩ := hrel
    go_wp2
    go_ret
    exact ⟨rfl, H.out, S1.out⟩

def RShI (base s : Nat) (bs out : List Int) (p0 most cc g cap : Nat) (T : Res (List Int)) (G : List Int → Nat → Res (List Int)) (w : World) (k : Nat) (iv : Value) (wr : World) : Prop :=
  ∃ i p e sh, iv = .int .i64 ((i : Nat) : Int) ∧ i + k = cc ∧ wr.ownsRow w.heap.size 3 1 (.slice (some ⟨g, 0, none⟩) 19 cap) 19 (sh.map (Value.int .i64)) ∧ RefOk wr base s bs p out (most : Int) e ∧ StStep w wr base s s ∧
    ((e = 4 ∧ T = .bad false) ∨ (e = 0 ∧ shortsR (bitsOf bs) i p0 = .ok sh p ∧ T = (shortsR (bitsOf bs) cc p0).bind G))
theorem RefOk.intStep {w0 w w' : World} {base s p b2 n : Nat} {bs out : List Int} {most e : Int} {u : Value} {xs : List Value} (h : StStep w0 w base s s) (ho : w.ownsRow b2 3 1 u n xs) (hb2 : w0.heap.size ≤ b2) (hbase : base ≤ w0.heap.size) (hg : w.grownBy w' u.ownBlock) : StStep w0 w' base s s := h.int ho hb2 hbase hg

set_option maxHeartbeats 1600000 in
set_option maxRecDepth 100000 in
theorem rdynamic_any (base s : Nat) (bs : List Int) (p : Nat) (out : List Int) (most : Nat) (w : World) (h : RefOk w base s bs p out (most : Int) 0)
    (hB : Bytes bs) (hl : bs.length ≤ 1000000000) (hm : most ≤ 65536) (ho : out.length ≤ most) :
    Calls Tryd.prog 37 #[.pointer (some ⟨s, 0, none⟩)] w (RVoid base s bs most (dynamicR (bitsOf bs) most out p) w) := by
  have H := Lib.hid h
  have HBy := Lib.hid hB
  have h3 := h.2.2.1
  have hp := h.1
  clear h hB
  obtain ⟨T, hT⟩ : ∃ T, T = dynamicR (bitsOf bs) most out p := ⟨_, rfl⟩
  rw [← hT]
  have HT := Lib.hid (show T = (numR (bitsOf bs) p 5).bind fun n p => (numR (bitsOf bs) p 5).bind fun m p => (numR (bitsOf bs) p 4).bind fun c p =>
    if 286 < 257 + n ∨ 30 < 1 + m then .bad false else (shortsR (bitsOf bs) (4 + c) p).bind (dynG (bitsOf bs) most out n m) from hT)
  clear hT
  go_enter Tryd.func37, Tryd.ntmps37
  go_wp2_with fail
  refine (rnumber_any base s bs p out (most : Int) 0 5 w H.out HBy.out hl (by omega)).mono ?_
  rintro ev w1 ⟨x1, p1, e1, rfl, hx1, hs1, st1, tk1, -⟩
  have H1 := Lib.hid hs1
  have S1 := Lib.hid st1
  have T1 := Lib.hid (rtook_next (fun b => numR_bad) (.inr ⟨rfl, HT.out⟩) tk1)
  have hx1' : x1 < 32 := hx1
  clear hs1 st1 tk1 HT hx1
  go_wp2_with fail
  refine (rnumber_any base s bs p1 out (most : Int) e1 5 w1 H1.out HBy.out hl (by omega)).mono ?_
  rintro ev w2 ⟨x2, p2, e2, rfl, hx2, hs2, st2, tk2, -⟩
  have H2 := Lib.hid hs2
  have S2 := Lib.hid (S1.out.trans st2)
  have T2 := Lib.hid (rtook_next (fun b => numR_bad) T1.out tk2)
  have hx2' : x2 < 32 := hx2
  clear hs2 st2 tk2 T1 hx2 H1 S1
  go_wp2_with fail
  refine (rnumber_any base s bs p2 out (most : Int) e2 4 w2 H2.out HBy.out hl (by omega)).mono ?_
  rintro ev w3 ⟨x3, p3, e3, rfl, hx3, hs3, st3, tk3, -⟩
  have H3 := Lib.hid hs3
  have S3 := Lib.hid (S2.out.trans st3)
  have T3 := Lib.hid (rtook_next (fun b => numR_bad) T2.out tk3)
  have hx3' : x3 < 16 := hx3
  clear hs3 st3 tk3 T2 hx3 H2 S2
  by_cases hbig : 286 < 257 + x1 ∨ 30 < 1 + x2
  · have HE := Lib.hid (show (if e3 = 0 then (4 : Int) else e3) = 4 ∧ T = .bad false by
      rcases T3.out with ⟨a, b⟩ | ⟨a, b⟩
      · rw [a]; exact ⟨rfl, b⟩
      · rw [if_pos hbig] at b
        rw [if_pos a]; exact ⟨rfl, b⟩)
    have T4 := Lib.hid (show ((4 : Int) = 4 ∧ T = .bad false) ∨ ((4 : Int) = 0 ∧ T = (shortsR (bitsOf bs) (4 + x3) p3).bind (dynG (bitsOf bs) most out x1 x2)) from .inl ⟨rfl, HE.out.2⟩)
    by_cases hb1 : 286 < 257 + x1
    · have hb1I : (286 : Int) < 257 + (x1 : Int) := by omega
      clear hbig
      go_wp2_with fail
      refine (rfail_any base s bs p3 out (most : Int) e3 4 w3 H3.out).mono ?_
      rintro ev w4 ⟨rfl, h5', s5, _⟩
      rw [HE.out.1] at h5'
      have H4 := Lib.hid h5'
      have S4 := Lib.hid (S3.out.trans s5)
      clear h5' s5 H3 S3 T3 HE
      go_wp2_with fail
      refine (rorder_any w4).mono ?_
      rintro ev w5 ⟨go, rfl, ko, hgo, hb5⟩
      have H5 := Lib.hid (H4.out.below hb5)
      have S5 := Lib.hid (S4.out.trans (StStep.of_below hb5 H4.out.2.2.1))
      have KO5 := Lib.hid ko
      clear ko hb5 H4 S4
      have hw5 := S5.out.size
      have h55 := H5.out.2.2.1
      go_wp2_with (refine mk_ints rfl (.const (.int .i64 19)) (.const (.int .i64 19)) rfl w5.heap.size 19 _ _ rfl rfl rfl rfl (by omega) (Nat.le_refl _) ?_; intro w9 ho9 hg9; have O9 := Lib.hid ho9; have G9 := Lib.hid hg9; clear ho9 hg9)
      have B9 := Lib.hid (bl_n (Below.refl _ _) G9.out)
      have H9 := Lib.hid (H5.out.below B9.out)
      have S9 := Lib.hid (StStep.of_below (s := s) (r := s) B9.out h55)
      clear G9
      go_loopg [7] (4 + x3) (RShI base s bs out p3 most (4 + x3) w5.heap.size 19 T (dynG (bitsOf bs) most out x1 x2) w5)
      case atStart =>
        refine ⟨0, p3, 4, List.replicate 19 0, rfl, by omega, by simpa using O9.out, H9.out, S9.out, ?_⟩
        rcases T4.out with h | ⟨a, b⟩
        · first | exact .inl h | exact .inl ⟨rfl, h.2⟩
        · exact .inr ⟨a, rfl, b⟩
      case round =>
        clear O9 H9 S9 T4 B9
        obtain ⟨i, p5, e5, sh, rfl, hi, ho5, hs5', st5, hT5⟩ := hrel
        have hshl : sh.length = 19 := by simpa using ho5.1
        have O6 := Lib.hid ho5
        have H6 := Lib.hid hs5'
        have S6 := Lib.hid st5
        have T5 := Lib.hid hT5
        have KO6 := Lib.hid (H5.out.keepBlk st5 KO5.out (by decide) (by decide))
        have h56 := hs5'.2.2.1
        clear ho5 hs5' st5 hT5
        by_cases hlt : i < 4 + x3
        · have hltI : (i : Int) < 4 + (x3 : Int) := by omega
          have cx := tab_cell KO6.out (j := i) (show i < 19 by omega)
          have hob := ord_bd i (by omega)
          obtain ⟨o, hoE⟩ : ∃ o : Nat, orderL.getD i 0 = (o : Int) := ⟨(orderL.getD i 0).toNat, by omega⟩
          rw [hoE] at cx hob
          have ho19 : o < 19 := by omega
          have hoI : (o : Int) < 19 := by omega
          have hi19 : (i : Int) < 19 := by omega
          have HOE := Lib.hid hoE
          clear hoE hob
          go_wp2
          refine wp_region_qs (fun j w' => j ≤ 1 → w'.cell? ⟨go, i, none⟩ = some (.int .i64 (o : Int))) [(0, some 1), (1, some 1), (2, some 1), (3, some 1), (4, some 1), (5, some 0), (6, none), (7, some 1), (8, none)] (by kernel_rfl) (by kernel_rfl) (by kernel_rfl) (by kernel_rfl) (by kernel_rfl) (fun _ _ _ _ _ h => h) (fun _ => cx) ?_
          simp only [List.map_cons, List.map_nil, List.getD_cons_succ, List.getD_cons_zero]
          (repeat (first | (refine qs_now (v := ?_) (by rfl) ?_ ?_; rotate_left 1; (· (intro w' hS; go_simp; (try (simp only [↓IntWalk.iteOmega]; go_simp)); (try simp (disch := omega) only [IntWalk.i64_in]); try with_reducible rfl)); simp only [Act.put, List.setIfInBounds_toArray, List.set_cons_zero, List.set_cons_succ]) | (refine qs_run (v := ?_) (by rfl) ?_ ?_; rotate_left 1; (· (intro j w' hS; go_simp; (try (simp only [↓IntWalk.iteOmega]; go_simp)); (try simp (disch := omega) only [IntWalk.i64_in]); try with_reducible rfl)); simp only [Act.put, List.setIfInBounds_toArray, List.set_cons_zero, List.set_cons_succ]) | (refine qs_mid (v := ?_) (by rfl) ?_ ?_; rotate_left 1; (· (intro j w' hj1 hj2 hS; go_simp; (try (simp only [↓IntWalk.iteOmega]; go_simp)); (try simp (disch := omega) only [IntWalk.i64_in]); try with_reducible rfl)); simp only [Act.put, List.setIfInBounds_toArray, List.set_cons_zero, List.set_cons_succ]) | (refine qs_skip (by rfl) ?_; simp only [Act.put, List.setIfInBounds_toArray, List.set_cons_zero, List.set_cons_succ])))
          refine qs_act ?_
          go_wp2_with fail
          have hdr := (Below.refl wr.heap.size wr).drew
          refine (rnumber_any base s bs p5 out (most : Int) e5 3 wr.drew (H6.out.below hdr) HBy.out hl (by omega)).mono ?_
          rintro ev w6 ⟨x, p6, e6, rfl, hx, hs6, st6, tk6, -⟩
          have st66 := (StStep.of_below (s := s) (r := s) hdr h56).trans st6
          have O7 := Lib.hid (H6.out.row st66 O6.out)
          have H7 := Lib.hid hs6
          have S7 := Lib.hid (S6.out.trans st66)
          have T6 := Lib.hid tk6
          have KO7 := Lib.hid (H6.out.keepBlk st66 KO6.out (by decide) (by decide))
          have cx7 := tab_cell KO7.out (j := i) (show i < 19 by omega)
          rw [HOE.out] at cx7
          have q1 := O7.out.cellAt o (by omega)
          have q2 := O7.out.frozenAt o
          rw [List.getElem?_map, List.getElem?_eq_getElem (by omega)] at q1
          simp only [Option.map_some] at q1
          clear hs6 st6 tk6 st66 hdr O6 S6 KO6 cx H6 KO7
          go_wp2
          refine ⟨fun _ => cx7, ?_⟩
          (repeat (first | (refine qs_now (v := ?_) (by rfl) ?_ ?_; rotate_left 1; (· (intro w' hS; go_simp; (try (simp only [↓IntWalk.iteOmega]; go_simp)); (try simp (disch := omega) only [IntWalk.i64_in]); try with_reducible rfl)); simp only [Act.put, List.setIfInBounds_toArray, List.set_cons_zero, List.set_cons_succ]) | (refine qs_run (v := ?_) (by rfl) ?_ ?_; rotate_left 1; (· (intro j w' hS; go_simp; (try (simp only [↓IntWalk.iteOmega]; go_simp)); (try simp (disch := omega) only [IntWalk.i64_in]); try with_reducible rfl)); simp only [Act.put, List.setIfInBounds_toArray, List.set_cons_zero, List.set_cons_succ]) | (refine qs_mid (v := ?_) (by rfl) ?_ ?_; rotate_left 1; (· (intro j w' hj1 hj2 hS; go_simp; (try (simp only [↓IntWalk.iteOmega]; go_simp)); (try simp (disch := omega) only [IntWalk.i64_in]); try with_reducible rfl)); simp only [Act.put, List.setIfInBounds_toArray, List.set_cons_zero, List.set_cons_succ]) | (refine qs_skip (by rfl) ?_; simp only [Act.put, List.setIfInBounds_toArray, List.set_cons_zero, List.set_cons_succ])))
          refine qs_act ?_
          go_wp2
          refine ⟨fun h => absurd h (by omega), ?_⟩
          refine qs_nil ?_
          go_wp2
          go_roundg (gk - 1)
          case measure => omega
          case rel =>
            have hst := O7.out.stored o (.int .i64 (x : Int))
            refine ⟨i + 1, p6, e6, sh.set o (x : Int), by go_num, by omega, ?_, H7.out.int O7.out h55 hst.2, S7.out.int O7.out (Nat.le_refl _) h55 hst.2, ?_⟩
            · rw [List.map_set]; exact hst.1
            · have ho2 : (orderL.getD i 0).toNat = o := by rw [HOE.out]; rfl
              rcases T5.out with ⟨a, b⟩ | ⟨a, b, c⟩
              · left
                refine ⟨?_, b⟩
                rcases T6.out with ⟨h, _⟩ | ⟨_, _, h⟩
                · rw [a] at h; cases h
                · rw [h, a]
              · subst a
                rcases took_or (T6.out.resolve_right (fun h => h.1 rfl)).2 with ⟨k, h⟩ | ⟨b', k, _, h⟩
                · exact .inr ⟨h, by rw [shortsR, b]; simp only [Res.bind]; rw [k]; simp only [ho2], c⟩
                · obtain rfl := numR_bad k
                  left
                  refine ⟨h, ?_⟩
                  have hbad : shortsR (bitsOf bs) (i + 1) p3 = .bad false := by rw [shortsR, b]; simp only [Res.bind]; rw [k]
                  have := shortsR_bad hbad (4 + x3 - (i + 1))
                  rw [show i + 1 + (4 + x3 - (i + 1)) = 4 + x3 by omega] at this
                  rw [c, this]; rfl
        · have hltI : ¬ (i : Int) < 4 + (x3 : Int) := by omega
          obtain rfl : i = 4 + x3 := by omega
          have T6 := Lib.hid (show (e5 = 4 ∧ T = .bad false) ∨ (e5 = 0 ∧ T = dynG (bitsOf bs) most out x1 x2 sh p5) by
            rcases T5.out with h | ⟨a, b, c⟩
            · exact .inl h
            · exact .inr ⟨a, by rw [c, b]; rfl⟩)
          clear T5
          go_wp2_with fail
          refine (made_any sh _ 19 19 wr (RdI.of_own O6.out) (by omega)).mono ?_
          rintro ev w6 ⟨bt, rfl, hbt, htr, hb6⟩
          obtain ⟨w7, hw7⟩ : ∃ w7, w7 = w6.alloc (.cells #[.map (some bt)] 117) := ⟨_, rfl⟩
          have L7 := Lib.hid (show Below w6.heap.size w6 w7 by rw [hw7]; exact (Below.refl _ _).alloc (Nat.le_refl _) _)
          have KT7 := Lib.hid (show Blk w7 w6.heap.size 117 #[.map (some bt)] by rw [hw7]; exact Blk.made _ _ _)
          have B7 := Lib.hid (below_chain hb6 L7.out)
          have H7 := Lib.hid (H6.out.below B7.out)
          have S7 := Lib.hid ((S5.out.trans S6.out).trans (StStep.of_below B7.out h56))
          have TR7 := Lib.hid (show countsOk sh = true → TreeOk w7 bt sh from fun hh => (htr hh).below L7.out)
          have HW7 := Lib.hid hw7
          have kt := KT7.out.cell (i := 0) rfl
          clear htr hb6 hw7 L7 B7 H6 S6 O6 KO6
          cases hx0 : countsOk sh
          · have HE := Lib.hid (show (if e5 = 0 then (4 : Int) else e5) = 4 ∧ T = .bad false by
              rcases T6.out with ⟨a, b⟩ | ⟨a, b⟩
              · rw [a]; exact ⟨rfl, b⟩
              · rw [dynG, if_neg (by rw [hx0]; simp)] at b
                rw [if_pos a]; exact ⟨rfl, b⟩)
            clear hx0 T6 TR7
            go_wp2_with fail
            rw [← HW7.out]
            refine (rfail_any base s bs p5 out (most : Int) e5 4 w7 H7.out).mono ?_
            rintro ev w8 ⟨rfl, h7', s7, _⟩
            rw [HE.out.1] at h7'
            have HTb := Lib.hid HE.out.2
            have H8 := Lib.hid h7'
            have S8 := Lib.hid (S7.out.trans s7)
            have KT8 := H7.out.keepBlk s7 KT7.out (by decide) (by decide)
            have kt8 := KT8.cell (i := 0) rfl
            clear h7' s7 KT8 H7 S7 HE HW7 kt KT7
            go_wp2_with fail
            rw [show (257 + (x1 : Int) + (1 + (x2 : Int))) = ((257 + x1 + (1 + x2) : Nat) : Int) by omega]
            refine (rlengths_no base s bt bs p5 out (most : Int) 4 (257 + x1 + (1 + x2)) w8 H8.out (by omega) (by omega) (by omega)).mono ?_
            rintro ev wz ⟨rfl, hsz, stz⟩
            have HZ := Lib.hid hsz
            have SZ := Lib.hid (S8.out.trans stz)
            have c4z := hsz.c4
            clear hsz stz
            go_wp2
            go_end0
            exact ⟨p5, out, 4, rfl, HZ.out, SZ.out, ho, by rw [HTb.out]; rfl⟩
          · have HX0 := Lib.hid hx0
            rcases T6.out with ⟨rfl, hTb⟩ | ⟨rfl, hTk⟩
            · have HTb := Lib.hid hTb
              clear hTb T6 hx0 TR7
              go_wp2_with fail
              rw [← HW7.out]
              have H8 := H7
              have S8 := S7
              clear H7 S7
              rw [show (257 + (x1 : Int) + (1 + (x2 : Int))) = ((257 + x1 + (1 + x2) : Nat) : Int) by omega]
              refine (rlengths_no base s bt bs p5 out (most : Int) 4 (257 + x1 + (1 + x2)) w7 H8.out (by omega) (by omega) (by omega)).mono ?_
              rintro ev wz ⟨rfl, hsz, stz⟩
              have HZ := Lib.hid hsz
              have SZ := Lib.hid (S8.out.trans stz)
              have c4z := hsz.c4
              clear hsz stz
              go_wp2
              go_end0
              exact ⟨p5, out, 4, rfl, HZ.out, SZ.out, ho, by rw [HTb.out]; rfl⟩
            ·
              rw [dynG, if_pos hx0, bitsOf_len] at hTk
              have HTk := Lib.hid hTk
              have TRx := Lib.hid (TR7.out hx0)
              clear hTk T6 hx0 TR7
              have hnm : (257 + x1 + (1 + x2) : Nat) ≤ 1000 := by omega
              go_wp2_with fail
              rw [← HW7.out]
              rw [show (257 + (x1 : Int) + (1 + (x2 : Int))) = ((257 + x1 + (1 + x2) : Nat) : Int) by omega]
              refine (rlengths_any base s bt bs sh p5 out most (257 + x1 + (1 + x2)) w7 H7.out TRx.out HX0.out HBy.out hl hnm).mono ?_
              rintro ev w8 ⟨A7, m7, c7, p7, e7, rfl, hc7, hs7, st7, ag7⟩
              have H8 := Lib.hid hs7
              have S8 := Lib.hid (S7.out.trans st7)
              have AG := Lib.hid ag7
              have c4' := hs7.c4
              have h58 := hs7.2.2.1
              clear hs7 st7 ag7 H7 S7 TRx kt KT7 HW7
              rcases hlr : lensR (bitsOf bs) sh (257 + x1 + (1 + x2)) (8 * bs.length + 1) [] p5 with ⟨all, q⟩ | b
              · rw [hlr] at AG HTk
                clear hlr
                obtain ⟨he7, hpq, hm7, hrd⟩ := AG.out
                subst he7 hpq hm7
                simp only [Res.bind] at HTk
                clear AG
                obtain ⟨ba, offa, rfl, hblt, hcells⟩ := hrd.2 (by omega)
                have HRd := Lib.hid hrd
                have ca := hcells 256 (by omega)
                clear hcells hrd
                by_cases ha0 : all.getD 256 0 = 0
                · rw [ha0] at ca
                  rw [if_pos ha0] at HTk
                  clear ha0
                  go_wp2_with fail
                  refine (rfail_any base s bs p7 out (most : Int) 0 4 w8 H8.out).mono ?_
                  rintro ev w9 ⟨rfl, h5', s5, _⟩
                  rw [if_pos rfl] at h5'
                  have H9 := Lib.hid h5'
                  have S9 := Lib.hid (S8.out.trans s5)
                  clear h5' s5
                  go_wp2
                  go_end0
                  exact ⟨p7, out, 4, rfl, H9.out, S9.out, ho, by rw [HTk.out]; rfl⟩
                · rw [if_neg ha0] at HTk
                  generalize all.getD 256 0 = a0 at *
                  have ha0' : (a0 == 0) = false := by simpa using ha0
                  clear ha0
                  have f1 : (0 : Int) ≤ 257 + (x1 : Int) := by omega
                  have f2 : (257 : Int) + (x1 : Int) ≤ c7 := by omega
                  have f3 : (257 : Int) + (x1 : Int) ≤ ((257 + x1 + (1 + x2) : Nat) : Int) := by omega
                  have f4 : 257 + x1 ≠ c7 := by omega
                  go_wp2
                  refine wp_region_qs (fun _ _ => True) [(0, some 0), (1, some 1), (2, some 1), (3, some 0), (4, some 1), (5, some 1), (6, some 0), (7, none)] (by kernel_rfl) (by kernel_rfl) (by kernel_rfl) (by kernel_rfl) (by kernel_rfl) (fun _ _ _ _ _ h => h) trivial ?_
                  simp only [List.map_cons, List.map_nil, List.getD_cons_succ, List.getD_cons_zero]
                  (repeat (first | (refine qs_now (v := ?_) (by rfl) ?_ ?_; rotate_left 1; (· (intro w' hS; go_simp; (try (simp only [↓IntWalk.iteOmega]; go_simp)); (try simp (disch := omega) only [IntWalk.i64_in]); try with_reducible rfl)); simp only [Act.put, List.setIfInBounds_toArray, List.set_cons_zero, List.set_cons_succ]) | (refine qs_run (v := ?_) (by rfl) ?_ ?_; rotate_left 1; (· (intro j w' hS; go_simp; (try (simp only [↓IntWalk.iteOmega]; go_simp)); (try simp (disch := omega) only [IntWalk.i64_in]); try with_reducible rfl)); simp only [Act.put, List.setIfInBounds_toArray, List.set_cons_zero, List.set_cons_succ]) | (refine qs_mid (v := ?_) (by rfl) ?_ ?_; rotate_left 1; (· (intro j w' hj1 hj2 hS; go_simp; (try (simp only [↓IntWalk.iteOmega]; go_simp)); (try simp (disch := omega) only [IntWalk.i64_in]); try with_reducible rfl)); simp only [Act.put, List.setIfInBounds_toArray, List.set_cons_zero, List.set_cons_succ]) | (refine qs_skip (by rfl) ?_; simp only [Act.put, List.setIfInBounds_toArray, List.set_cons_zero, List.set_cons_succ])))
                  refine qs_act ?_
                  go_wp2_with fail
                  have hdr := (Below.refl w8.heap.size w8).drew
                  have hr1 := rd_take (HRd.out.below hdr) (257 + x1) (by omega)
                  have hr2 := rd_from (HRd.out.below hdr) (257 + x1) (by omega)
                  refine (rcoded_any base s bs (all.take (257 + x1)) (all.drop (257 + x1)) p7 out most _ _ _ _ c7 (c7 - (257 + x1)) w8.drew (H8.out.below hdr) hr1 hr2 (by omega) (by omega) HBy.out hl hm ho).mono ?_
                  rintro ev w9 ⟨p8, o8, e8, rfl, hs8, st8, ho8, ag8⟩
                  rw [← HTk.out] at ag8
                  have H9 := Lib.hid hs8
                  have S9 := Lib.hid (S8.out.trans ((StStep.of_below hdr h58).trans st8))
                  have A8 := Lib.hid ag8
                  clear hs8 st8 ag8 hr1 hr2
                  go_wp2
                  refine ⟨trivial, ?_⟩
                  refine qs_nil ?_
                  go_wp2
                  go_end0
                  exact ⟨p8, o8, e8, rfl, H9.out, S9.out, ho8, A8.out⟩
              · rw [hlr] at AG HTk
                clear hlr
                have he7 : e7 = errOf b := AG.out
                have hne := errOf_ne b
                have HE7 := Lib.hid he7
                have hne7 : (e7 != 0) = true := by rw [he7]; simpa using hne
                clear he7 hne AG
                go_wp2
                go_end0
                exact ⟨p7, out, e7, rfl, H8.out, S8.out, ho, by rw [HTk.out]; exact HE7.out⟩
    · have hb1I : ¬ (286 : Int) < 257 + (x1 : Int) := by omega
      have hb1D : decide ((286 : Int) < 257 + (x1 : Int)) = false := by simpa using hb1I
      have hb2I : (30 : Int) < 1 + (x2 : Int) := by omega
      clear hbig
      go_wp2_with fail
      refine (rfail_any base s bs p3 out (most : Int) e3 4 w3 H3.out).mono ?_
      rintro ev w4 ⟨rfl, h5', s5, _⟩
      rw [HE.out.1] at h5'
      have H4 := Lib.hid h5'
      have S4 := Lib.hid (S3.out.trans s5)
      clear h5' s5 H3 S3 T3 HE
      go_wp2_with fail
      refine (rorder_any w4).mono ?_
      rintro ev w5 ⟨go, rfl, ko, hgo, hb5⟩
      have H5 := Lib.hid (H4.out.below hb5)
      have S5 := Lib.hid (S4.out.trans (StStep.of_below hb5 H4.out.2.2.1))
      have KO5 := Lib.hid ko
      clear ko hb5 H4 S4
      have hw5 := S5.out.size
      have h55 := H5.out.2.2.1
      go_wp2_with (refine mk_ints rfl (.const (.int .i64 19)) (.const (.int .i64 19)) rfl w5.heap.size 19 _ _ rfl rfl rfl rfl (by omega) (Nat.le_refl _) ?_; intro w9 ho9 hg9; have O9 := Lib.hid ho9; have G9 := Lib.hid hg9; clear ho9 hg9)
      have B9 := Lib.hid (bl_n (Below.refl _ _) G9.out)
      have H9 := Lib.hid (H5.out.below B9.out)
      have S9 := Lib.hid (StStep.of_below (s := s) (r := s) B9.out h55)
      clear G9
      go_loopg [7] (4 + x3) (RShI base s bs out p3 most (4 + x3) w5.heap.size 19 T (dynG (bitsOf bs) most out x1 x2) w5)
      case atStart =>
        refine ⟨0, p3, 4, List.replicate 19 0, rfl, by omega, by simpa using O9.out, H9.out, S9.out, ?_⟩
        rcases T4.out with h | ⟨a, b⟩
        · first | exact .inl h | exact .inl ⟨rfl, h.2⟩
        · exact .inr ⟨a, rfl, b⟩
      case round =>
        clear O9 H9 S9 T4 B9
        obtain ⟨i, p5, e5, sh, rfl, hi, ho5, hs5', st5, hT5⟩ := hrel
        have hshl : sh.length = 19 := by simpa using ho5.1
        have O6 := Lib.hid ho5
        have H6 := Lib.hid hs5'
        have S6 := Lib.hid st5
        have T5 := Lib.hid hT5
        have KO6 := Lib.hid (H5.out.keepBlk st5 KO5.out (by decide) (by decide))
        have h56 := hs5'.2.2.1
        clear ho5 hs5' st5 hT5
        by_cases hlt : i < 4 + x3
        · have hltI : (i : Int) < 4 + (x3 : Int) := by omega
          have cx := tab_cell KO6.out (j := i) (show i < 19 by omega)
          have hob := ord_bd i (by omega)
          obtain ⟨o, hoE⟩ : ∃ o : Nat, orderL.getD i 0 = (o : Int) := ⟨(orderL.getD i 0).toNat, by omega⟩
          rw [hoE] at cx hob
          have ho19 : o < 19 := by omega
          have hoI : (o : Int) < 19 := by omega
          have hi19 : (i : Int) < 19 := by omega
          have HOE := Lib.hid hoE
          clear hoE hob
          go_wp2
          refine wp_region_qs (fun j w' => j ≤ 1 → w'.cell? ⟨go, i, none⟩ = some (.int .i64 (o : Int))) [(0, some 1), (1, some 1), (2, some 1), (3, some 1), (4, some 1), (5, some 0), (6, none), (7, some 1), (8, none)] (by kernel_rfl) (by kernel_rfl) (by kernel_rfl) (by kernel_rfl) (by kernel_rfl) (fun _ _ _ _ _ h => h) (fun _ => cx) ?_
          simp only [List.map_cons, List.map_nil, List.getD_cons_succ, List.getD_cons_zero]
          (repeat (first | (refine qs_now (v := ?_) (by rfl) ?_ ?_; rotate_left 1; (· (intro w' hS; go_simp; (try (simp only [↓IntWalk.iteOmega]; go_simp)); (try simp (disch := omega) only [IntWalk.i64_in]); try with_reducible rfl)); simp only [Act.put, List.setIfInBounds_toArray, List.set_cons_zero, List.set_cons_succ]) | (refine qs_run (v := ?_) (by rfl) ?_ ?_; rotate_left 1; (· (intro j w' hS; go_simp; (try (simp only [↓IntWalk.iteOmega]; go_simp)); (try simp (disch := omega) only [IntWalk.i64_in]); try with_reducible rfl)); simp only [Act.put, List.setIfInBounds_toArray, List.set_cons_zero, List.set_cons_succ]) | (refine qs_mid (v := ?_) (by rfl) ?_ ?_; rotate_left 1; (· (intro j w' hj1 hj2 hS; go_simp; (try (simp only [↓IntWalk.iteOmega]; go_simp)); (try simp (disch := omega) only [IntWalk.i64_in]); try with_reducible rfl)); simp only [Act.put, List.setIfInBounds_toArray, List.set_cons_zero, List.set_cons_succ]) | (refine qs_skip (by rfl) ?_; simp only [Act.put, List.setIfInBounds_toArray, List.set_cons_zero, List.set_cons_succ])))
          refine qs_act ?_
          go_wp2_with fail
          have hdr := (Below.refl wr.heap.size wr).drew
          refine (rnumber_any base s bs p5 out (most : Int) e5 3 wr.drew (H6.out.below hdr) HBy.out hl (by omega)).mono ?_
          rintro ev w6 ⟨x, p6, e6, rfl, hx, hs6, st6, tk6, -⟩
          have st66 := (StStep.of_below (s := s) (r := s) hdr h56).trans st6
          have O7 := Lib.hid (H6.out.row st66 O6.out)
          have H7 := Lib.hid hs6
          have S7 := Lib.hid (S6.out.trans st66)
          have T6 := Lib.hid tk6
          have KO7 := Lib.hid (H6.out.keepBlk st66 KO6.out (by decide) (by decide))
          have cx7 := tab_cell KO7.out (j := i) (show i < 19 by omega)
          rw [HOE.out] at cx7
          have q1 := O7.out.cellAt o (by omega)
          have q2 := O7.out.frozenAt o
          rw [List.getElem?_map, List.getElem?_eq_getElem (by omega)] at q1
          simp only [Option.map_some] at q1
          clear hs6 st6 tk6 st66 hdr O6 S6 KO6 cx H6 KO7
          go_wp2
          refine ⟨fun _ => cx7, ?_⟩
          (repeat (first | (refine qs_now (v := ?_) (by rfl) ?_ ?_; rotate_left 1; (· (intro w' hS; go_simp; (try (simp only [↓IntWalk.iteOmega]; go_simp)); (try simp (disch := omega) only [IntWalk.i64_in]); try with_reducible rfl)); simp only [Act.put, List.setIfInBounds_toArray, List.set_cons_zero, List.set_cons_succ]) | (refine qs_run (v := ?_) (by rfl) ?_ ?_; rotate_left 1; (· (intro j w' hS; go_simp; (try (simp only [↓IntWalk.iteOmega]; go_simp)); (try simp (disch := omega) only [IntWalk.i64_in]); try with_reducible rfl)); simp only [Act.put, List.setIfInBounds_toArray, List.set_cons_zero, List.set_cons_succ]) | (refine qs_mid (v := ?_) (by rfl) ?_ ?_; rotate_left 1; (· (intro j w' hj1 hj2 hS; go_simp; (try (simp only [↓IntWalk.iteOmega]; go_simp)); (try simp (disch := omega) only [IntWalk.i64_in]); try with_reducible rfl)); simp only [Act.put, List.setIfInBounds_toArray, List.set_cons_zero, List.set_cons_succ]) | (refine qs_skip (by rfl) ?_; simp only [Act.put, List.setIfInBounds_toArray, List.set_cons_zero, List.set_cons_succ])))
          refine qs_act ?_
          go_wp2
          refine ⟨fun h => absurd h (by omega), ?_⟩
          refine qs_nil ?_
          go_wp2
          go_roundg (gk - 1)
          case measure => omega
          case rel =>
            have hst := O7.out.stored o (.int .i64 (x : Int))
            refine ⟨i + 1, p6, e6, sh.set o (x : Int), by go_num, by omega, ?_, H7.out.int O7.out h55 hst.2, S7.out.int O7.out (Nat.le_refl _) h55 hst.2, ?_⟩
            · rw [List.map_set]; exact hst.1
            · have ho2 : (orderL.getD i 0).toNat = o := by rw [HOE.out]; rfl
              rcases T5.out with ⟨a, b⟩ | ⟨a, b, c⟩
              · left
                refine ⟨?_, b⟩
                rcases T6.out with ⟨h, _⟩ | ⟨_, _, h⟩
                · rw [a] at h; cases h
                · rw [h, a]
              · subst a
                rcases took_or (T6.out.resolve_right (fun h => h.1 rfl)).2 with ⟨k, h⟩ | ⟨b', k, _, h⟩
                · exact .inr ⟨h, by rw [shortsR, b]; simp only [Res.bind]; rw [k]; simp only [ho2], c⟩
                · obtain rfl := numR_bad k
                  left
                  refine ⟨h, ?_⟩
                  have hbad : shortsR (bitsOf bs) (i + 1) p3 = .bad false := by rw [shortsR, b]; simp only [Res.bind]; rw [k]
                  have := shortsR_bad hbad (4 + x3 - (i + 1))
                  rw [show i + 1 + (4 + x3 - (i + 1)) = 4 + x3 by omega] at this
                  rw [c, this]; rfl
        · have hltI : ¬ (i : Int) < 4 + (x3 : Int) := by omega
          obtain rfl : i = 4 + x3 := by omega
          have T6 := Lib.hid (show (e5 = 4 ∧ T = .bad false) ∨ (e5 = 0 ∧ T = dynG (bitsOf bs) most out x1 x2 sh p5) by
            rcases T5.out with h | ⟨a, b, c⟩
            · exact .inl h
            · exact .inr ⟨a, by rw [c, b]; rfl⟩)
          clear T5
          go_wp2_with fail
          refine (made_any sh _ 19 19 wr (RdI.of_own O6.out) (by omega)).mono ?_
          rintro ev w6 ⟨bt, rfl, hbt, htr, hb6⟩
          obtain ⟨w7, hw7⟩ : ∃ w7, w7 = w6.alloc (.cells #[.map (some bt)] 117) := ⟨_, rfl⟩
          have L7 := Lib.hid (show Below w6.heap.size w6 w7 by rw [hw7]; exact (Below.refl _ _).alloc (Nat.le_refl _) _)
          have KT7 := Lib.hid (show Blk w7 w6.heap.size 117 #[.map (some bt)] by rw [hw7]; exact Blk.made _ _ _)
          have B7 := Lib.hid (below_chain hb6 L7.out)
          have H7 := Lib.hid (H6.out.below B7.out)
          have S7 := Lib.hid ((S5.out.trans S6.out).trans (StStep.of_below B7.out h56))
          have TR7 := Lib.hid (show countsOk sh = true → TreeOk w7 bt sh from fun hh => (htr hh).below L7.out)
          have HW7 := Lib.hid hw7
          have kt := KT7.out.cell (i := 0) rfl
          clear htr hb6 hw7 L7 B7 H6 S6 O6 KO6
          cases hx0 : countsOk sh
          · have HE := Lib.hid (show (if e5 = 0 then (4 : Int) else e5) = 4 ∧ T = .bad false by
              rcases T6.out with ⟨a, b⟩ | ⟨a, b⟩
              · rw [a]; exact ⟨rfl, b⟩
              · rw [dynG, if_neg (by rw [hx0]; simp)] at b
                rw [if_pos a]; exact ⟨rfl, b⟩)
            clear hx0 T6 TR7
            go_wp2_with fail
            rw [← HW7.out]
            refine (rfail_any base s bs p5 out (most : Int) e5 4 w7 H7.out).mono ?_
            rintro ev w8 ⟨rfl, h7', s7, _⟩
            rw [HE.out.1] at h7'
            have HTb := Lib.hid HE.out.2
            have H8 := Lib.hid h7'
            have S8 := Lib.hid (S7.out.trans s7)
            have KT8 := H7.out.keepBlk s7 KT7.out (by decide) (by decide)
            have kt8 := KT8.cell (i := 0) rfl
            clear h7' s7 KT8 H7 S7 HE HW7 kt KT7
            go_wp2_with fail
            rw [show (257 + (x1 : Int) + (1 + (x2 : Int))) = ((257 + x1 + (1 + x2) : Nat) : Int) by omega]
            refine (rlengths_no base s bt bs p5 out (most : Int) 4 (257 + x1 + (1 + x2)) w8 H8.out (by omega) (by omega) (by omega)).mono ?_
            rintro ev wz ⟨rfl, hsz, stz⟩
            have HZ := Lib.hid hsz
            have SZ := Lib.hid (S8.out.trans stz)
            have c4z := hsz.c4
            clear hsz stz
            go_wp2
            go_end0
            exact ⟨p5, out, 4, rfl, HZ.out, SZ.out, ho, by rw [HTb.out]; rfl⟩
          · have HX0 := Lib.hid hx0
            rcases T6.out with ⟨rfl, hTb⟩ | ⟨rfl, hTk⟩
            · have HTb := Lib.hid hTb
              clear hTb T6 hx0 TR7
              go_wp2_with fail
              rw [← HW7.out]
              have H8 := H7
              have S8 := S7
              clear H7 S7
              rw [show (257 + (x1 : Int) + (1 + (x2 : Int))) = ((257 + x1 + (1 + x2) : Nat) : Int) by omega]
              refine (rlengths_no base s bt bs p5 out (most : Int) 4 (257 + x1 + (1 + x2)) w7 H8.out (by omega) (by omega) (by omega)).mono ?_
              rintro ev wz ⟨rfl, hsz, stz⟩
              have HZ := Lib.hid hsz
              have SZ := Lib.hid (S8.out.trans stz)
              have c4z := hsz.c4
              clear hsz stz
              go_wp2
              go_end0
              exact ⟨p5, out, 4, rfl, HZ.out, SZ.out, ho, by rw [HTb.out]; rfl⟩
            ·
              rw [dynG, if_pos hx0, bitsOf_len] at hTk
              have HTk := Lib.hid hTk
              have TRx := Lib.hid (TR7.out hx0)
              clear hTk T6 hx0 TR7
              have hnm : (257 + x1 + (1 + x2) : Nat) ≤ 1000 := by omega
              go_wp2_with fail
              rw [← HW7.out]
              rw [show (257 + (x1 : Int) + (1 + (x2 : Int))) = ((257 + x1 + (1 + x2) : Nat) : Int) by omega]
              refine (rlengths_any base s bt bs sh p5 out most (257 + x1 + (1 + x2)) w7 H7.out TRx.out HX0.out HBy.out hl hnm).mono ?_
              rintro ev w8 ⟨A7, m7, c7, p7, e7, rfl, hc7, hs7, st7, ag7⟩
              have H8 := Lib.hid hs7
              have S8 := Lib.hid (S7.out.trans st7)
              have AG := Lib.hid ag7
              have c4' := hs7.c4
              have h58 := hs7.2.2.1
              clear hs7 st7 ag7 H7 S7 TRx kt KT7 HW7
              rcases hlr : lensR (bitsOf bs) sh (257 + x1 + (1 + x2)) (8 * bs.length + 1) [] p5 with ⟨all, q⟩ | b
              · rw [hlr] at AG HTk
                clear hlr
                obtain ⟨he7, hpq, hm7, hrd⟩ := AG.out
                subst he7 hpq hm7
                simp only [Res.bind] at HTk
                clear AG
                obtain ⟨ba, offa, rfl, hblt, hcells⟩ := hrd.2 (by omega)
                have HRd := Lib.hid hrd
                have ca := hcells 256 (by omega)
                clear hcells hrd
                by_cases ha0 : all.getD 256 0 = 0
                · rw [ha0] at ca
                  rw [if_pos ha0] at HTk
                  clear ha0
                  go_wp2_with fail
                  refine (rfail_any base s bs p7 out (most : Int) 0 4 w8 H8.out).mono ?_
                  rintro ev w9 ⟨rfl, h5', s5, _⟩
                  rw [if_pos rfl] at h5'
                  have H9 := Lib.hid h5'
                  have S9 := Lib.hid (S8.out.trans s5)
                  clear h5' s5
                  go_wp2
                  go_end0
                  exact ⟨p7, out, 4, rfl, H9.out, S9.out, ho, by rw [HTk.out]; rfl⟩
                · rw [if_neg ha0] at HTk
                  generalize all.getD 256 0 = a0 at *
                  have ha0' : (a0 == 0) = false := by simpa using ha0
                  clear ha0
                  have f1 : (0 : Int) ≤ 257 + (x1 : Int) := by omega
                  have f2 : (257 : Int) + (x1 : Int) ≤ c7 := by omega
                  have f3 : (257 : Int) + (x1 : Int) ≤ ((257 + x1 + (1 + x2) : Nat) : Int) := by omega
                  have f4 : 257 + x1 ≠ c7 := by omega
                  go_wp2
                  refine wp_region_qs (fun _ _ => True) [(0, some 0), (1, some 1), (2, some 1), (3, some 0), (4, some 1), (5, some 1), (6, some 0), (7, none)] (by kernel_rfl) (by kernel_rfl) (by kernel_rfl) (by kernel_rfl) (by kernel_rfl) (fun _ _ _ _ _ h => h) trivial ?_
                  simp only [List.map_cons, List.map_nil, List.getD_cons_succ, List.getD_cons_zero]
                  (repeat (first | (refine qs_now (v := ?_) (by rfl) ?_ ?_; rotate_left 1; (· (intro w' hS; go_simp; (try (simp only [↓IntWalk.iteOmega]; go_simp)); (try simp (disch := omega) only [IntWalk.i64_in]); try with_reducible rfl)); simp only [Act.put, List.setIfInBounds_toArray, List.set_cons_zero, List.set_cons_succ]) | (refine qs_run (v := ?_) (by rfl) ?_ ?_; rotate_left 1; (· (intro j w' hS; go_simp; (try (simp only [↓IntWalk.iteOmega]; go_simp)); (try simp (disch := omega) only [IntWalk.i64_in]); try with_reducible rfl)); simp only [Act.put, List.setIfInBounds_toArray, List.set_cons_zero, List.set_cons_succ]) | (refine qs_mid (v := ?_) (by rfl) ?_ ?_; rotate_left 1; (· (intro j w' hj1 hj2 hS; go_simp; (try (simp only [↓IntWalk.iteOmega]; go_simp)); (try simp (disch := omega) only [IntWalk.i64_in]); try with_reducible rfl)); simp only [Act.put, List.setIfInBounds_toArray, List.set_cons_zero, List.set_cons_succ]) | (refine qs_skip (by rfl) ?_; simp only [Act.put, List.setIfInBounds_toArray, List.set_cons_zero, List.set_cons_succ])))
                  refine qs_act ?_
                  go_wp2_with fail
                  have hdr := (Below.refl w8.heap.size w8).drew
                  have hr1 := rd_take (HRd.out.below hdr) (257 + x1) (by omega)
                  have hr2 := rd_from (HRd.out.below hdr) (257 + x1) (by omega)
                  refine (rcoded_any base s bs (all.take (257 + x1)) (all.drop (257 + x1)) p7 out most _ _ _ _ c7 (c7 - (257 + x1)) w8.drew (H8.out.below hdr) hr1 hr2 (by omega) (by omega) HBy.out hl hm ho).mono ?_
                  rintro ev w9 ⟨p8, o8, e8, rfl, hs8, st8, ho8, ag8⟩
                  rw [← HTk.out] at ag8
                  have H9 := Lib.hid hs8
                  have S9 := Lib.hid (S8.out.trans ((StStep.of_below hdr h58).trans st8))
                  have A8 := Lib.hid ag8
                  clear hs8 st8 ag8 hr1 hr2
                  go_wp2
                  refine ⟨trivial, ?_⟩
                  refine qs_nil ?_
                  go_wp2
                  go_end0
                  exact ⟨p8, o8, e8, rfl, H9.out, S9.out, ho8, A8.out⟩
              · rw [hlr] at AG HTk
                clear hlr
                have he7 : e7 = errOf b := AG.out
                have hne := errOf_ne b
                have HE7 := Lib.hid he7
                have hne7 : (e7 != 0) = true := by rw [he7]; simpa using hne
                clear he7 hne AG
                go_wp2
                go_end0
                exact ⟨p7, out, e7, rfl, H8.out, S8.out, ho, by rw [HTk.out]; exact HE7.out⟩
  · have hb1I : ¬ (286 : Int) < 257 + (x1 : Int) := by omega
    have hb1D : decide ((286 : Int) < 257 + (x1 : Int)) = false := by simpa using hb1I
    have hb2I : ¬ (30 : Int) < 1 + (x2 : Int) := by omega
    rw [if_neg hbig] at T3
    have H4 := H3
    have S4 := S3
    have T4 := T3
    clear H3 S3 T3 hbig
    go_wp2_with fail
    refine (rorder_any w3).mono ?_
    rintro ev w5 ⟨go, rfl, ko, hgo, hb5⟩
    have H5 := Lib.hid (H4.out.below hb5)
    have S5 := Lib.hid (S4.out.trans (StStep.of_below hb5 H4.out.2.2.1))
    have KO5 := Lib.hid ko
    clear ko hb5 H4 S4
    have hw5 := S5.out.size
    have h55 := H5.out.2.2.1
    go_wp2_with (refine mk_ints rfl (.const (.int .i64 19)) (.const (.int .i64 19)) rfl w5.heap.size 19 _ _ rfl rfl rfl rfl (by omega) (Nat.le_refl _) ?_; intro w9 ho9 hg9; have O9 := Lib.hid ho9; have G9 := Lib.hid hg9; clear ho9 hg9)
    have B9 := Lib.hid (bl_n (Below.refl _ _) G9.out)
    have H9 := Lib.hid (H5.out.below B9.out)
    have S9 := Lib.hid (StStep.of_below (s := s) (r := s) B9.out h55)
    clear G9
    go_loopg [7] (4 + x3) (RShI base s bs out p3 most (4 + x3) w5.heap.size 19 T (dynG (bitsOf bs) most out x1 x2) w5)
    case atStart =>
      refine ⟨0, p3, e3, List.replicate 19 0, rfl, by omega, by simpa using O9.out, H9.out, S9.out, ?_⟩
      rcases T4.out with h | ⟨a, b⟩
      · first | exact .inl h | exact .inl ⟨rfl, h.2⟩
      · exact .inr ⟨a, rfl, b⟩
    case round =>
      clear O9 H9 S9 T4 B9
      obtain ⟨i, p5, e5, sh, rfl, hi, ho5, hs5', st5, hT5⟩ := hrel
      have hshl : sh.length = 19 := by simpa using ho5.1
      have O6 := Lib.hid ho5
      have H6 := Lib.hid hs5'
      have S6 := Lib.hid st5
      have T5 := Lib.hid hT5
      have KO6 := Lib.hid (H5.out.keepBlk st5 KO5.out (by decide) (by decide))
      have h56 := hs5'.2.2.1
      clear ho5 hs5' st5 hT5
      by_cases hlt : i < 4 + x3
      · have hltI : (i : Int) < 4 + (x3 : Int) := by omega
        have cx := tab_cell KO6.out (j := i) (show i < 19 by omega)
        have hob := ord_bd i (by omega)
        obtain ⟨o, hoE⟩ : ∃ o : Nat, orderL.getD i 0 = (o : Int) := ⟨(orderL.getD i 0).toNat, by omega⟩
        rw [hoE] at cx hob
        have ho19 : o < 19 := by omega
        have hoI : (o : Int) < 19 := by omega
        have hi19 : (i : Int) < 19 := by omega
        have HOE := Lib.hid hoE
        clear hoE hob
        go_wp2
        refine wp_region_qs (fun j w' => j ≤ 1 → w'.cell? ⟨go, i, none⟩ = some (.int .i64 (o : Int))) [(0, some 1), (1, some 1), (2, some 1), (3, some 1), (4, some 1), (5, some 0), (6, none), (7, some 1), (8, none)] (by kernel_rfl) (by kernel_rfl) (by kernel_rfl) (by kernel_rfl) (by kernel_rfl) (fun _ _ _ _ _ h => h) (fun _ => cx) ?_
        simp only [List.map_cons, List.map_nil, List.getD_cons_succ, List.getD_cons_zero]
        (repeat (first | (refine qs_now (v := ?_) (by rfl) ?_ ?_; rotate_left 1; (· (intro w' hS; go_simp; (try (simp only [↓IntWalk.iteOmega]; go_simp)); (try simp (disch := omega) only [IntWalk.i64_in]); try with_reducible rfl)); simp only [Act.put, List.setIfInBounds_toArray, List.set_cons_zero, List.set_cons_succ]) | (refine qs_run (v := ?_) (by rfl) ?_ ?_; rotate_left 1; (· (intro j w' hS; go_simp; (try (simp only [↓IntWalk.iteOmega]; go_simp)); (try simp (disch := omega) only [IntWalk.i64_in]); try with_reducible rfl)); simp only [Act.put, List.setIfInBounds_toArray, List.set_cons_zero, List.set_cons_succ]) | (refine qs_mid (v := ?_) (by rfl) ?_ ?_; rotate_left 1; (· (intro j w' hj1 hj2 hS; go_simp; (try (simp only [↓IntWalk.iteOmega]; go_simp)); (try simp (disch := omega) only [IntWalk.i64_in]); try with_reducible rfl)); simp only [Act.put, List.setIfInBounds_toArray, List.set_cons_zero, List.set_cons_succ]) | (refine qs_skip (by rfl) ?_; simp only [Act.put, List.setIfInBounds_toArray, List.set_cons_zero, List.set_cons_succ])))
        refine qs_act ?_
        go_wp2_with fail
        have hdr := (Below.refl wr.heap.size wr).drew
        refine (rnumber_any base s bs p5 out (most : Int) e5 3 wr.drew (H6.out.below hdr) HBy.out hl (by omega)).mono ?_
        rintro ev w6 ⟨x, p6, e6, rfl, hx, hs6, st6, tk6, -⟩
        have st66 := (StStep.of_below (s := s) (r := s) hdr h56).trans st6
        have O7 := Lib.hid (H6.out.row st66 O6.out)
        have H7 := Lib.hid hs6
        have S7 := Lib.hid (S6.out.trans st66)
        have T6 := Lib.hid tk6
        have KO7 := Lib.hid (H6.out.keepBlk st66 KO6.out (by decide) (by decide))
        have cx7 := tab_cell KO7.out (j := i) (show i < 19 by omega)
        rw [HOE.out] at cx7
        have q1 := O7.out.cellAt o (by omega)
        have q2 := O7.out.frozenAt o
        rw [List.getElem?_map, List.getElem?_eq_getElem (by omega)] at q1
        simp only [Option.map_some] at q1
        clear hs6 st6 tk6 st66 hdr O6 S6 KO6 cx H6 KO7
        go_wp2
        refine ⟨fun _ => cx7, ?_⟩
        (repeat (first | (refine qs_now (v := ?_) (by rfl) ?_ ?_; rotate_left 1; (· (intro w' hS; go_simp; (try (simp only [↓IntWalk.iteOmega]; go_simp)); (try simp (disch := omega) only [IntWalk.i64_in]); try with_reducible rfl)); simp only [Act.put, List.setIfInBounds_toArray, List.set_cons_zero, List.set_cons_succ]) | (refine qs_run (v := ?_) (by rfl) ?_ ?_; rotate_left 1; (· (intro j w' hS; go_simp; (try (simp only [↓IntWalk.iteOmega]; go_simp)); (try simp (disch := omega) only [IntWalk.i64_in]); try with_reducible rfl)); simp only [Act.put, List.setIfInBounds_toArray, List.set_cons_zero, List.set_cons_succ]) | (refine qs_mid (v := ?_) (by rfl) ?_ ?_; rotate_left 1; (· (intro j w' hj1 hj2 hS; go_simp; (try (simp only [↓IntWalk.iteOmega]; go_simp)); (try simp (disch := omega) only [IntWalk.i64_in]); try with_reducible rfl)); simp only [Act.put, List.setIfInBounds_toArray, List.set_cons_zero, List.set_cons_succ]) | (refine qs_skip (by rfl) ?_; simp only [Act.put, List.setIfInBounds_toArray, List.set_cons_zero, List.set_cons_succ])))
        refine qs_act ?_
        go_wp2
        refine ⟨fun h => absurd h (by omega), ?_⟩
        refine qs_nil ?_
        go_wp2
        go_roundg (gk - 1)
        case measure => omega
        case rel =>
          have hst := O7.out.stored o (.int .i64 (x : Int))
          refine ⟨i + 1, p6, e6, sh.set o (x : Int), by go_num, by omega, ?_, H7.out.int O7.out h55 hst.2, S7.out.int O7.out (Nat.le_refl _) h55 hst.2, ?_⟩
          · rw [List.map_set]; exact hst.1
          · have ho2 : (orderL.getD i 0).toNat = o := by rw [HOE.out]; rfl
            rcases T5.out with ⟨a, b⟩ | ⟨a, b, c⟩
            · left
              refine ⟨?_, b⟩
              rcases T6.out with ⟨h, _⟩ | ⟨_, _, h⟩
              · rw [a] at h; cases h
              · rw [h, a]
            · subst a
              rcases took_or (T6.out.resolve_right (fun h => h.1 rfl)).2 with ⟨k, h⟩ | ⟨b', k, _, h⟩
              · exact .inr ⟨h, by rw [shortsR, b]; simp only [Res.bind]; rw [k]; simp only [ho2], c⟩
              · obtain rfl := numR_bad k
                left
                refine ⟨h, ?_⟩
                have hbad : shortsR (bitsOf bs) (i + 1) p3 = .bad false := by rw [shortsR, b]; simp only [Res.bind]; rw [k]
                have := shortsR_bad hbad (4 + x3 - (i + 1))
                rw [show i + 1 + (4 + x3 - (i + 1)) = 4 + x3 by omega] at this
                rw [c, this]; rfl
      · have hltI : ¬ (i : Int) < 4 + (x3 : Int) := by omega
        obtain rfl : i = 4 + x3 := by omega
        have T6 := Lib.hid (show (e5 = 4 ∧ T = .bad false) ∨ (e5 = 0 ∧ T = dynG (bitsOf bs) most out x1 x2 sh p5) by
          rcases T5.out with h | ⟨a, b, c⟩
          · exact .inl h
          · exact .inr ⟨a, by rw [c, b]; rfl⟩)
        clear T5
        go_wp2_with fail
        refine (made_any sh _ 19 19 wr (RdI.of_own O6.out) (by omega)).mono ?_
        rintro ev w6 ⟨bt, rfl, hbt, htr, hb6⟩
        obtain ⟨w7, hw7⟩ : ∃ w7, w7 = w6.alloc (.cells #[.map (some bt)] 117) := ⟨_, rfl⟩
        have L7 := Lib.hid (show Below w6.heap.size w6 w7 by rw [hw7]; exact (Below.refl _ _).alloc (Nat.le_refl _) _)
        have KT7 := Lib.hid (show Blk w7 w6.heap.size 117 #[.map (some bt)] by rw [hw7]; exact Blk.made _ _ _)
        have B7 := Lib.hid (below_chain hb6 L7.out)
        have H7 := Lib.hid (H6.out.below B7.out)
        have S7 := Lib.hid ((S5.out.trans S6.out).trans (StStep.of_below B7.out h56))
        have TR7 := Lib.hid (show countsOk sh = true → TreeOk w7 bt sh from fun hh => (htr hh).below L7.out)
        have HW7 := Lib.hid hw7
        have kt := KT7.out.cell (i := 0) rfl
        clear htr hb6 hw7 L7 B7 H6 S6 O6 KO6
        cases hx0 : countsOk sh
        · have HE := Lib.hid (show (if e5 = 0 then (4 : Int) else e5) = 4 ∧ T = .bad false by
            rcases T6.out with ⟨a, b⟩ | ⟨a, b⟩
            · rw [a]; exact ⟨rfl, b⟩
            · rw [dynG, if_neg (by rw [hx0]; simp)] at b
              rw [if_pos a]; exact ⟨rfl, b⟩)
          clear hx0 T6 TR7
          go_wp2_with fail
          rw [← HW7.out]
          refine (rfail_any base s bs p5 out (most : Int) e5 4 w7 H7.out).mono ?_
          rintro ev w8 ⟨rfl, h7', s7, _⟩
          rw [HE.out.1] at h7'
          have HTb := Lib.hid HE.out.2
          have H8 := Lib.hid h7'
          have S8 := Lib.hid (S7.out.trans s7)
          have KT8 := H7.out.keepBlk s7 KT7.out (by decide) (by decide)
          have kt8 := KT8.cell (i := 0) rfl
          clear h7' s7 KT8 H7 S7 HE HW7 kt KT7
          go_wp2_with fail
          rw [show (257 + (x1 : Int) + (1 + (x2 : Int))) = ((257 + x1 + (1 + x2) : Nat) : Int) by omega]
          refine (rlengths_no base s bt bs p5 out (most : Int) 4 (257 + x1 + (1 + x2)) w8 H8.out (by omega) (by omega) (by omega)).mono ?_
          rintro ev wz ⟨rfl, hsz, stz⟩
          have HZ := Lib.hid hsz
          have SZ := Lib.hid (S8.out.trans stz)
          have c4z := hsz.c4
          clear hsz stz
          go_wp2
          go_end0
          exact ⟨p5, out, 4, rfl, HZ.out, SZ.out, ho, by rw [HTb.out]; rfl⟩
        · have HX0 := Lib.hid hx0
          rcases T6.out with ⟨rfl, hTb⟩ | ⟨rfl, hTk⟩
          · have HTb := Lib.hid hTb
            clear hTb T6 hx0 TR7
            go_wp2_with fail
            rw [← HW7.out]
            have H8 := H7
            have S8 := S7
            clear H7 S7
            rw [show (257 + (x1 : Int) + (1 + (x2 : Int))) = ((257 + x1 + (1 + x2) : Nat) : Int) by omega]
            refine (rlengths_no base s bt bs p5 out (most : Int) 4 (257 + x1 + (1 + x2)) w7 H8.out (by omega) (by omega) (by omega)).mono ?_
            rintro ev wz ⟨rfl, hsz, stz⟩
            have HZ := Lib.hid hsz
            have SZ := Lib.hid (S8.out.trans stz)
            have c4z := hsz.c4
            clear hsz stz
            go_wp2
            go_end0
            exact ⟨p5, out, 4, rfl, HZ.out, SZ.out, ho, by rw [HTb.out]; rfl⟩
          ·
            rw [dynG, if_pos hx0, bitsOf_len] at hTk
            have HTk := Lib.hid hTk
            have TRx := Lib.hid (TR7.out hx0)
            clear hTk T6 hx0 TR7
            have hnm : (257 + x1 + (1 + x2) : Nat) ≤ 1000 := by omega
            go_wp2_with fail
            rw [← HW7.out]
            rw [show (257 + (x1 : Int) + (1 + (x2 : Int))) = ((257 + x1 + (1 + x2) : Nat) : Int) by omega]
            refine (rlengths_any base s bt bs sh p5 out most (257 + x1 + (1 + x2)) w7 H7.out TRx.out HX0.out HBy.out hl hnm).mono ?_
            rintro ev w8 ⟨A7, m7, c7, p7, e7, rfl, hc7, hs7, st7, ag7⟩
            have H8 := Lib.hid hs7
            have S8 := Lib.hid (S7.out.trans st7)
            have AG := Lib.hid ag7
            have c4' := hs7.c4
            have h58 := hs7.2.2.1
            clear hs7 st7 ag7 H7 S7 TRx kt KT7 HW7
            rcases hlr : lensR (bitsOf bs) sh (257 + x1 + (1 + x2)) (8 * bs.length + 1) [] p5 with ⟨all, q⟩ | b
            · rw [hlr] at AG HTk
              clear hlr
              obtain ⟨he7, hpq, hm7, hrd⟩ := AG.out
              subst he7 hpq hm7
              simp only [Res.bind] at HTk
              clear AG
              obtain ⟨ba, offa, rfl, hblt, hcells⟩ := hrd.2 (by omega)
              have HRd := Lib.hid hrd
              have ca := hcells 256 (by omega)
              clear hcells hrd
              by_cases ha0 : all.getD 256 0 = 0
              · rw [ha0] at ca
                rw [if_pos ha0] at HTk
                clear ha0
                go_wp2_with fail
                refine (rfail_any base s bs p7 out (most : Int) 0 4 w8 H8.out).mono ?_
                rintro ev w9 ⟨rfl, h5', s5, _⟩
                rw [if_pos rfl] at h5'
                have H9 := Lib.hid h5'
                have S9 := Lib.hid (S8.out.trans s5)
                clear h5' s5
                go_wp2
                go_end0
                exact ⟨p7, out, 4, rfl, H9.out, S9.out, ho, by rw [HTk.out]; rfl⟩
              · rw [if_neg ha0] at HTk
                generalize all.getD 256 0 = a0 at *
                have ha0' : (a0 == 0) = false := by simpa using ha0
                clear ha0
                have f1 : (0 : Int) ≤ 257 + (x1 : Int) := by omega
                have f2 : (257 : Int) + (x1 : Int) ≤ c7 := by omega
                have f3 : (257 : Int) + (x1 : Int) ≤ ((257 + x1 + (1 + x2) : Nat) : Int) := by omega
                have f4 : 257 + x1 ≠ c7 := by omega
                go_wp2
                refine wp_region_qs (fun _ _ => True) [(0, some 0), (1, some 1), (2, some 1), (3, some 0), (4, some 1), (5, some 1), (6, some 0), (7, none)] (by kernel_rfl) (by kernel_rfl) (by kernel_rfl) (by kernel_rfl) (by kernel_rfl) (fun _ _ _ _ _ h => h) trivial ?_
                simp only [List.map_cons, List.map_nil, List.getD_cons_succ, List.getD_cons_zero]
                (repeat (first | (refine qs_now (v := ?_) (by rfl) ?_ ?_; rotate_left 1; (· (intro w' hS; go_simp; (try (simp only [↓IntWalk.iteOmega]; go_simp)); (try simp (disch := omega) only [IntWalk.i64_in]); try with_reducible rfl)); simp only [Act.put, List.setIfInBounds_toArray, List.set_cons_zero, List.set_cons_succ]) | (refine qs_run (v := ?_) (by rfl) ?_ ?_; rotate_left 1; (· (intro j w' hS; go_simp; (try (simp only [↓IntWalk.iteOmega]; go_simp)); (try simp (disch := omega) only [IntWalk.i64_in]); try with_reducible rfl)); simp only [Act.put, List.setIfInBounds_toArray, List.set_cons_zero, List.set_cons_succ]) | (refine qs_mid (v := ?_) (by rfl) ?_ ?_; rotate_left 1; (· (intro j w' hj1 hj2 hS; go_simp; (try (simp only [↓IntWalk.iteOmega]; go_simp)); (try simp (disch := omega) only [IntWalk.i64_in]); try with_reducible rfl)); simp only [Act.put, List.setIfInBounds_toArray, List.set_cons_zero, List.set_cons_succ]) | (refine qs_skip (by rfl) ?_; simp only [Act.put, List.setIfInBounds_toArray, List.set_cons_zero, List.set_cons_succ])))
                refine qs_act ?_
                go_wp2_with fail
                have hdr := (Below.refl w8.heap.size w8).drew
                have hr1 := rd_take (HRd.out.below hdr) (257 + x1) (by omega)
                have hr2 := rd_from (HRd.out.below hdr) (257 + x1) (by omega)
                refine (rcoded_any base s bs (all.take (257 + x1)) (all.drop (257 + x1)) p7 out most _ _ _ _ c7 (c7 - (257 + x1)) w8.drew (H8.out.below hdr) hr1 hr2 (by omega) (by omega) HBy.out hl hm ho).mono ?_
                rintro ev w9 ⟨p8, o8, e8, rfl, hs8, st8, ho8, ag8⟩
                rw [← HTk.out] at ag8
                have H9 := Lib.hid hs8
                have S9 := Lib.hid (S8.out.trans ((StStep.of_below hdr h58).trans st8))
                have A8 := Lib.hid ag8
                clear hs8 st8 ag8 hr1 hr2
                go_wp2
                refine ⟨trivial, ?_⟩
                refine qs_nil ?_
                go_wp2
                go_end0
                exact ⟨p8, o8, e8, rfl, H9.out, S9.out, ho8, A8.out⟩
            · rw [hlr] at AG HTk
              clear hlr
              have he7 : e7 = errOf b := AG.out
              have hne := errOf_ne b
              have HE7 := Lib.hid he7
              have hne7 : (e7 != 0) = true := by rw [he7]; simpa using hne
              clear he7 hne AG
              go_wp2
              go_end0
              exact ⟨p7, out, e7, rfl, H8.out, S8.out, ho, by rw [HTk.out]; exact HE7.out⟩
end Go.Proofs.YtacidmamfkfipaaDoor
