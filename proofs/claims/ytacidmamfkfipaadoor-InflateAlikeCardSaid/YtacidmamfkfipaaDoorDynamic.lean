/-
  inflate's blocks with codes of their own, walked.
-/
import Derived.Test.YtacidmamfkfipaaDoorLensW
import Derived.Test.YtacidmamfkfipaaDoorBase
namespace Go.Proofs.YtacidmamfkfipaaDoor
open Go.RowKit
set_option linter.unusedVariables false

theorem shortsR_bad {bt : List Int} {p i : Nat} {b : Bool} (h : shortsR bt i p = .bad b) : ∀ d, shortsR bt (i + d) p = .bad b
  | 0 => h
  | d + 1 => by rw [← Nat.add_assoc, shortsR, shortsR_bad h d]; rfl
theorem ord_bd : ∀ i, i < 19 → 0 ≤ orderL.getD i 0 ∧ orderL.getD i 0 < 19 := by decide

theorem StrOk.c3 {w : World} {base s r p : Nat} {bs out : List Int} {most e : Int} (h : StrOk w base s r bs p out most e) : w.cell? ⟨s, 3, none⟩ = some (.int .i64 e) := by
  obtain ⟨_, _, _, _, _, _, vv, q7, _, _⟩ := h
  exact q7.cell (i := 3) (v := .int .i64 e) rfl
def dynG (bt : List Int) (most : Nat) (out : List Int) (n m : Nat) (sh : List Int) (p : Nat) : Res (List Int) :=
  if countsOk sh = true then
    (lensR bt sh (257 + n + (1 + m)) (bt.length + 1) [] p).bind fun all p =>
      if all.getD 256 0 = 0 then .bad false else codedR bt most (all.take (257 + n)) (all.drop (257 + n)) out p
  else .bad false
theorem slice_order (x : Nat) (hx : x < 16) (W : World) : (Instr.sliceAt 113 (.pointer (some ⟨0, 0, none⟩)) none (some (.int .i64 (4 + (x : Int)))) none).run Tryd.prog W = .ok (.slice (some ⟨0, 0, none⟩) (4 + x) 19) W := by
  have hu : Tryd.prog.underlying 113 = some (.array (Tryd.prog.arrayLen 113) (Tryd.prog.elem 113)) := by kernel_rfl
  have hl : Tryd.prog.arrayLen 113 = 19 := by kernel_rfl
  have he : Tryd.prog.elem 113 = 3 := by kernel_rfl
  rw [run_sliceAt_array_h W _ _ hu _ _ (by omega) (by rw [hl]; omega), hl, he]
  have hs : (sizeOf 3).run Tryd.prog W = .ok 1 W := by kernel_rfl
  rw [hs]
  simp only [Result.andThen_ok, slicedAt]
  have : (4 + (x : Int)).toNat = 4 + x := by omega
  rw [this]
  rfl
def ShI (base s r : Nat) (bs out : List Int) (p0 most cc g cap : Nat) (T : Res (List Int)) (G : List Int → Nat → Res (List Int)) (w : World) (k : Nat) (iv : Value) (wr : World) : Prop :=
  ∃ i p e sh, iv = .int .i64 ((i : Nat) : Int) ∧ i + k = cc ∧ wr.ownsRow w.heap.size 3 1 (.slice (some ⟨g, 0, none⟩) 19 cap) 19 (sh.map (Value.int .i64)) ∧ StrOk wr base s r bs p out (most : Int) e ∧ StStep w wr base s r ∧
    ((e = 4 ∧ T = .bad false) ∨ (e = 0 ∧ shortsR (bitsOf bs) i p0 = .ok sh p ∧ T = (shortsR (bitsOf bs) cc p0).bind G))

set_option maxHeartbeats 1600000 in
set_option maxRecDepth 100000 in
theorem dynamic_any (base s r : Nat) (bs : List Int) (p : Nat) (out : List Int) (most : Nat) (w : World) (h : StrOk w base s r bs p out (most : Int) 0)
    (ht : TabsOk w) (hs5 : 5 ≤ s) (hr5 : 5 ≤ r) (hB : Bytes bs) (hl : bs.length ≤ 1000000000) (hm : most ≤ 65536) (ho : out.length ≤ most) :
    Calls Tryd.prog 31 #[.pointer (some ⟨s, 0, none⟩)] w (VoidPost base s r bs most (dynamicR (bitsOf bs) most out p) w) := by
  have H := Lib.hid h
  have HTb := Lib.hid ht
  have HBy := Lib.hid hB
  obtain ⟨_, h2, h3, h4, h5, h6, _⟩ := h
  have hbase : 5 ≤ base := by omega
  clear ht hB
  obtain ⟨T, hT⟩ : ∃ T, T = dynamicR (bitsOf bs) most out p := ⟨_, rfl⟩
  rw [← hT]
  have HT := Lib.hid (show T = (numR (bitsOf bs) p 5).bind fun n p => (numR (bitsOf bs) p 5).bind fun m p => (numR (bitsOf bs) p 4).bind fun c p =>
    if 286 < 257 + n ∨ 30 < 1 + m then .bad false else (shortsR (bitsOf bs) (4 + c) p).bind (dynG (bitsOf bs) most out n m) from hT)
  clear hT
  go_enter Tryd.func31, Tryd.ntmps31
  go_wp2_with fail
  refine (number_any base s r bs p out (most : Int) 0 5 w H.out HBy.out hl (by omega)).mono ?_
  rintro ev w1 ⟨x1, p1, e1, rfl, hx1, hs1, st1, tk1, _⟩
  have H1 := Lib.hid hs1
  have S1 := Lib.hid st1
  have T1 := Lib.hid (took_next2 (fun b => numR_bad) HT.out tk1)
  have hx1' : x1 < 32 := hx1
  clear hs1 st1 tk1 HT hx1
  go_wp2_with fail
  refine (number_any base s r bs p1 out (most : Int) e1 5 w1 H1.out HBy.out hl (by omega)).mono ?_
  rintro ev w2 ⟨x2, p2, e2, rfl, hx2, hs2, st2, tk2, _⟩
  have H2 := Lib.hid hs2
  have S2 := Lib.hid (S1.out.trans st2)
  have T2 := Lib.hid (took_next (fun b => numR_bad) T1.out tk2)
  have hx2' : x2 < 32 := hx2
  clear hs2 st2 tk2 T1 hx2 H1 S1
  go_wp2_with fail
  refine (number_any base s r bs p2 out (most : Int) e2 4 w2 H2.out HBy.out hl (by omega)).mono ?_
  rintro ev w3 ⟨x3, p3, e3, rfl, hx3, hs3, st3, tk3, _⟩
  have H3 := Lib.hid hs3
  have S3 := Lib.hid (S2.out.trans st3)
  have T3 := Lib.hid (took_next (fun b => numR_bad) T2.out tk3)
  have hx3' : x3 < 16 := hx3
  clear hs3 st3 tk3 T2 hx3 H2 S2
  have hsl := slice_order x3 hx3'
  by_cases hbig : 286 < 257 + x1 ∨ 30 < 1 + x2
  · have HE := Lib.hid (show (if e3 = 0 then (4 : Int) else e3) = 4 ∧ T = .bad false by
      rcases T3.out with ⟨a, b⟩ | ⟨a, b⟩
      · rw [a]; exact ⟨rfl, b⟩
      · rw [if_pos hbig] at b
        rw [if_pos a]; exact ⟨rfl, b⟩)
    have T4 := Lib.hid (show ((4 : Int) = 4 ∧ T = .bad false) ∨ ((4 : Int) = 0 ∧ T = (shortsR (bitsOf bs) (4 + x3) p3).bind (dynG (bitsOf bs) most out x1 x2)) from .inl ⟨rfl, HE.out.2⟩)
    by_cases hb1 : 286 < 257 + x1
    · have hb1I : (286 : Int) < 257 + (x1 : Int) := by omega
      clear hbig
      go_wp2_with (first
        | (go_at_call 32; refine (fail_any base s r bs p3 out (most : Int) e3 4 w3 H3.out).mono ?_; rintro ev w4 ⟨rfl, h5', s5, _⟩; have H4 := Lib.hid h5'; have S4 := Lib.hid (S3.out.trans s5); clear h5' s5)
        | (refine mk_ints rfl (.const (.int .i64 19)) (.const (.int .i64 19)) rfl w.heap.size 19 _ _ rfl rfl rfl rfl (by omega) S4.out.size ?_; intro w9 ho9 hg9; have O9 := Lib.hid ho9; have G9 := Lib.hid hg9; clear ho9 hg9))
      rw [HE.out.1] at H4
      clear H3 S3 T3 HE
      have B9 := Lib.hid (bl_n (Below.refl _ _) G9.out)
      have H9 := Lib.hid (H4.out.below B9.out)
      have S9 := Lib.hid (S4.out.trans (StStep.of_below B9.out H4.out.2.2.2.2.1))
      clear H4 S4 G9 B9 hsl
      go_loopg [31] (4 + x3) (ShI base s r bs out p3 most (4 + x3) w4.heap.size 19 T (dynG (bitsOf bs) most out x1 x2) w)
      case atStart =>
        refine ⟨0, p3, 4, List.replicate 19 0, rfl, by omega, by simpa using O9.out, H9.out, S9.out, ?_⟩
        rcases T4.out with h | ⟨a, b⟩
        · first | exact .inl h | exact .inl ⟨rfl, h.2⟩
        · exact .inr ⟨a, rfl, b⟩
      case round =>
        clear O9 H9 S9 T4
        obtain ⟨i, p5, e5, sh, rfl, hi, ho5, hs5', st5, hT5⟩ := hrel
        have hshl : sh.length = 19 := by simpa using ho5.1
        have O5 := Lib.hid ho5
        have H5 := Lib.hid hs5'
        have S5 := Lib.hid st5
        have T5 := Lib.hid hT5
        have TB5 := Lib.hid (HTb.out.step st5 hs5 hr5 hbase)
        have h55 := hs5'.2.2.2.2.1
        have h5s := st5.size
        clear ho5 hs5' st5 hT5
        by_cases hlt : i < 4 + x3
        · have hltI : (i : Int) < 4 + (x3 : Int) := by omega
          have cx := TB5.out.2.2.2.2.1 i (show i < 19 by omega)
          have hob := ord_bd i (by omega)
          obtain ⟨o, hoE⟩ : ∃ o : Nat, orderL.getD i 0 = (o : Int) := ⟨(orderL.getD i 0).toNat, by omega⟩
          rw [hoE] at cx hob
          have ho19 : o < 19 := by omega
          have hoI : (o : Int) < 19 := by omega
          have HOE := Lib.hid hoE
          clear hoE hob
          go_wp2_with fail
          refine (number_any base s r bs p5 out (most : Int) e5 3 wr H5.out HBy.out hl (by omega)).mono ?_
          rintro ev w6 ⟨x, p6, e6, rfl, hx, hs6, st6, tk6, _⟩
          have O6 := Lib.hid (H5.out.row st6 O5.out)
          have H6 := Lib.hid hs6
          have S6 := Lib.hid (S5.out.trans st6)
          have T6 := Lib.hid tk6
          have q1 := O6.out.cellAt o (by omega)
          have q2 := O6.out.frozenAt o
          rw [List.getElem?_map, List.getElem?_eq_getElem (by omega)] at q1
          simp only [Option.map_some] at q1
          clear hs6 st6 tk6 H5 O5 S5 TB5 cx
          go_wp2
          go_roundg (gk - 1)
          case measure => omega
          case rel =>
            have hst := O6.out.stored o (.int .i64 (x : Int))
            refine ⟨i + 1, p6, e6, sh.set o (x : Int), by go_num, by omega, ?_, H6.out.int O6.out h5 hst.2, S6.out.int O6.out (Nat.le_refl _) h5 hst.2, ?_⟩
            · rw [List.map_set]; exact hst.1
            · have h1 := T6.out
              have ho2 : (orderL.getD i 0).toNat = o := by rw [HOE.out]; rfl
              rcases T5.out with ⟨a, b⟩ | ⟨a, b, c⟩
              · left
                refine ⟨?_, b⟩
                rcases took_or h1 with ⟨_, h⟩ | ⟨_, _, _, h⟩
                · rw [h, a]
                · rw [h, a]; rfl
              · subst a
                rcases took_or h1 with ⟨k, h⟩ | ⟨b', k, _, h⟩
                · exact .inr ⟨h, by rw [shortsR, b]; simp only [Res.bind]; rw [k]; simp only [ho2], c⟩
                · obtain rfl := numR_bad k
                  left
                  refine ⟨h, ?_⟩
                  have hbad : shortsR (bitsOf bs) (i + 1) p3 = .bad false := by rw [shortsR, b]; simp only [Res.bind]; rw [k]
                  have := shortsR_bad hbad (4 + x3 - (i + 1))
                  rw [show i + 1 + (4 + x3 - (i + 1)) = 4 + x3 by omega] at this
                  rw [c, this]; rfl
        · have hltI : ¬ (i : Int) < 4 + (x3 : Int) := by omega
          obtain rfl : i = 4 + x3 := by omega
          have T6 := Lib.hid (show (e5 = 4 ∧ T = .bad false) ∨ (e5 = 0 ∧ T = dynG (bitsOf bs) most out x1 x2 sh p5) by
            rcases T5.out with h | ⟨a, b, c⟩
            · exact .inl h
            · exact .inr ⟨a, by rw [c, b]; rfl⟩)
          clear T5
          go_wp2_with fail
          refine (new_any sh _ 19 19 wr (RdI.of_own O5.out) (by omega)).mono ?_
          rintro ev w6 ⟨hx, hb6⟩
          have H6 := Lib.hid (H5.out.below hb6)
          have S6 := Lib.hid (S5.out.trans (StStep.of_below hb6 h55))
          have TB6 := Lib.hid (TB5.out.below hb6)
          have HX := Lib.hid hx
          clear hx hb6 H5 S5 TB5 O5
          rcases HX.out with ⟨hx0, rfl⟩ | ⟨hx0, gd, rfl, hgd, hdx⟩
          · have HE := Lib.hid (show (if e5 = 0 then (4 : Int) else e5) = 4 ∧ T = .bad false by
              rcases T6.out with ⟨a, b⟩ | ⟨a, b⟩
              · rw [a]; exact ⟨rfl, b⟩
              · rw [dynG, if_neg (by rw [hx0]; simp)] at b
                rw [if_pos a]; exact ⟨rfl, b⟩)
            clear HX T6
            go_wp2_with fail
            refine (fail_any base s r bs p5 out (most : Int) e5 4 w6 H6.out).mono ?_
            rintro ev w7 ⟨rfl, h7', s7, _⟩
            rw [HE.out.1] at h7'
            have H7 := Lib.hid h7'
            have S7 := Lib.hid (S6.out.trans s7)
            obtain ⟨_, _, _, _, _, _, vv, q7, _, _⟩ := h7'
            have c3 := q7.cell (i := 3) (v := .int .i64 4) rfl
            clear s7 q7
            go_wp2
            go_end0
            exact ⟨p5, out, 4, rfl, H7.out, S7.out, ho, by rw [HE.out.2]; rfl⟩
          · have DX := Lib.hid hdx
            clear HX hdx
            obtain ⟨_, p5l, _, _, h56, _, vv, q7, _, _⟩ := H6.out
            have c3 := q7.cell (i := 3) (v := .int .i64 e5) rfl
            clear q7
            rcases T6.out with ⟨rfl, hTb⟩ | ⟨rfl, hTk⟩
            · have HTb' := Lib.hid hTb
              clear hTb T6
              go_wp2
              go_end0
              exact ⟨p5, out, 4, rfl, H6.out, S6.out, ho, by rw [HTb'.out]; rfl⟩
            ·
              rw [dynG, if_pos hx0, bitsOf_len] at hTk
              have HTk := Lib.hid hTk
              clear hTk T6
              have hnm : (257 + x1 + (1 + x2) : Nat) ≤ 1000 := by omega
              go_wp2_with fail
              rw [show (257 + (x1 : Int) + (1 + (x2 : Int))) = ((257 + x1 + (1 + x2) : Nat) : Int) by omega]
              refine (lengths_any base s r gd bs sh p5 out most (257 + x1 + (1 + x2)) w6 H6.out DX.out hx0 HBy.out hl hnm).mono ?_
              rintro ev w7 ⟨A7, m7, c7, p7, e7, rfl, hc7, hs7, st7, ag7⟩
              have H7 := Lib.hid hs7
              have S7 := Lib.hid (S6.out.trans st7)
              have TB7 := Lib.hid (TB6.out.step st7 hs5 hr5 hbase)
              have AG := Lib.hid ag7
              obtain ⟨_, p7l, _, _, h57, _, vv, q7, _, _⟩ := hs7
              have c3' := q7.cell (i := 3) (v := .int .i64 e7) rfl
              clear q7 st7 ag7 H6 S6 TB6 DX c3
              rcases hlr : lensR (bitsOf bs) sh (257 + x1 + (1 + x2)) (8 * bs.length + 1) [] p5 with ⟨all, q⟩ | b
              · rw [hlr] at AG HTk
                clear hlr
                obtain ⟨he7, hpq, hm7, hrd⟩ := AG.out
                subst he7 hpq hm7
                simp only [Res.bind] at HTk
                clear AG
                obtain ⟨ba, offa, rfl, hblt, hcells⟩ := hrd.2 (by omega)
                have HRd := Lib.hid hrd
                have ca := hcells 256 (by omega)
                have hal : all.length = 257 + x1 + (1 + x2) := HRd.out.1
                have HAl := Lib.hid hal
                clear hcells hrd hal
                by_cases ha0 : all.getD 256 0 = 0
                · rw [ha0] at ca
                  rw [if_pos ha0] at HTk
                  clear ha0
                  go_wp2_with (go_at_call 32; refine (fail_any base s r bs p7 out (most : Int) 0 4 w7 H7.out).mono ?_; rintro ev w8 ⟨rfl, h5', s5, _⟩; have H8 := Lib.hid h5'; have S8 := Lib.hid (S7.out.trans s5); have c38 := h5'.c3; clear h5' s5)
                  go_end0
                  exact ⟨p7, out, 4, rfl, H8.out, S8.out, ho, by rw [HTk.out]; rfl⟩
                · rw [if_neg ha0] at HTk
                  generalize all.getD 256 0 = a0 at *
                  have ha0' : (a0 == 0) = false := by simpa using ha0
                  clear ha0
                  have f1 : (0 : Int) ≤ 257 + (x1 : Int) := by omega
                  have f2 : (257 : Int) + (x1 : Int) ≤ c7 := by omega
                  have f3 : (257 : Int) + (x1 : Int) ≤ ((257 + x1 + (1 + x2) : Nat) : Int) := by omega
                  have f4 : 257 + x1 ≠ c7 := by omega
                  go_wp2
                  refine wp_region_qs (fun _ _ => True) [(0, some 0), (1, some 1), (2, some 1), (3, some 0), (4, some 1), (5, some 1), (6, some 0), (7, none)] (by kernel_rfl) (by kernel_rfl) (by kernel_rfl) (by kernel_rfl) (by kernel_rfl) (fun _ _ _ _ _ h => h) trivial ?_
                  simp only [List.map_cons, List.map_nil, List.getD_cons_succ, List.getD_cons_zero]
                  (repeat (first | (refine qs_now (v := ?_) (by rfl) ?_ ?_; rotate_left 1; (· (intro w' hS; go_simp; (try (simp only [↓IntWalk.iteOmega]; go_simp)); (try simp (disch := omega) only [IntWalk.i64_in]); try with_reducible rfl)); simp only [Act.put, List.setIfInBounds_toArray, List.set_cons_zero, List.set_cons_succ]) | (refine qs_run (v := ?_) (by rfl) ?_ ?_; rotate_left 1; (· (intro j w' hS; go_simp; (try (simp only [↓IntWalk.iteOmega]; go_simp)); (try simp (disch := omega) only [IntWalk.i64_in]); try with_reducible rfl)); simp only [Act.put, List.setIfInBounds_toArray, List.set_cons_zero, List.set_cons_succ]) | (refine qs_mid (v := ?_) (by rfl) ?_ ?_; rotate_left 1; (· (intro j w' hj1 hj2 hS; go_simp; (try (simp only [↓IntWalk.iteOmega]; go_simp)); (try simp (disch := omega) only [IntWalk.i64_in]); try with_reducible rfl)); simp only [Act.put, List.setIfInBounds_toArray, List.set_cons_zero, List.set_cons_succ]) | (refine qs_skip (by rfl) ?_; simp only [Act.put, List.setIfInBounds_toArray, List.set_cons_zero, List.set_cons_succ])))
                  refine qs_act ?_
                  go_wp2_with fail
                  have hdr := (Below.refl w7.heap.size w7).drew
                  have hr1 := rd_take (HRd.out.below hdr) (257 + x1) (by omega)
                  have hr2 := rd_from (HRd.out.below hdr) (257 + x1) (by omega)
                  refine (coded_any base s r bs (all.take (257 + x1)) (all.drop (257 + x1)) p7 out most _ _ _ _ c7 (c7 - (257 + x1)) w7.drew (H7.out.below hdr) hr1 hr2 (by omega) (by omega) (TB7.out.below hdr) hs5 hr5 HBy.out hl hm ho).mono ?_
                  rintro ev w8 ⟨p8, o8, e8, rfl, hs8, st8, ho8, ag8⟩
                  rw [← HTk.out] at ag8
                  have H8 := Lib.hid hs8
                  have S8 := Lib.hid (S7.out.trans ((StStep.of_below hdr h57).trans st8))
                  have A8 := Lib.hid ag8
                  clear hs8 st8 ag8 hr1 hr2
                  go_wp2
                  refine ⟨trivial, ?_⟩
                  refine qs_nil ?_
                  go_wp2
                  go_end0
                  exact ⟨p8, o8, e8, rfl, H8.out, S8.out, ho8, A8.out⟩
              · rw [hlr] at AG HTk
                clear hlr
                have he7 : e7 = errOf b := AG.out
                have hne := errOf_ne b
                have HE7 := Lib.hid he7
                have hne7 : (e7 == 0) = false := by rw [he7]; simpa using hne
                clear he7 hne AG
                go_wp2
                go_end0
                exact ⟨p7, out, e7, rfl, H7.out, S7.out, ho, by rw [HTk.out]; exact HE7.out⟩
    · have hb1I : ¬ (286 : Int) < 257 + (x1 : Int) := by omega
      have hb1D : decide ((286 : Int) < 257 + (x1 : Int)) = false := by simpa using hb1I
      have hb2I : (30 : Int) < 1 + (x2 : Int) := by omega
      clear hbig
      go_wp2_with (first
        | (go_at_call 32; refine (fail_any base s r bs p3 out (most : Int) e3 4 w3 H3.out).mono ?_; rintro ev w4 ⟨rfl, h5', s5, _⟩; have H4 := Lib.hid h5'; have S4 := Lib.hid (S3.out.trans s5); clear h5' s5)
        | (refine mk_ints rfl (.const (.int .i64 19)) (.const (.int .i64 19)) rfl w.heap.size 19 _ _ rfl rfl rfl rfl (by omega) S4.out.size ?_; intro w9 ho9 hg9; have O9 := Lib.hid ho9; have G9 := Lib.hid hg9; clear ho9 hg9))
      rw [HE.out.1] at H4
      clear H3 S3 T3 HE
      have B9 := Lib.hid (bl_n (Below.refl _ _) G9.out)
      have H9 := Lib.hid (H4.out.below B9.out)
      have S9 := Lib.hid (S4.out.trans (StStep.of_below B9.out H4.out.2.2.2.2.1))
      clear H4 S4 G9 B9 hsl
      go_loopg [31] (4 + x3) (ShI base s r bs out p3 most (4 + x3) w4.heap.size 19 T (dynG (bitsOf bs) most out x1 x2) w)
      case atStart =>
        refine ⟨0, p3, 4, List.replicate 19 0, rfl, by omega, by simpa using O9.out, H9.out, S9.out, ?_⟩
        rcases T4.out with h | ⟨a, b⟩
        · first | exact .inl h | exact .inl ⟨rfl, h.2⟩
        · exact .inr ⟨a, rfl, b⟩
      case round =>
        clear O9 H9 S9 T4
        obtain ⟨i, p5, e5, sh, rfl, hi, ho5, hs5', st5, hT5⟩ := hrel
        have hshl : sh.length = 19 := by simpa using ho5.1
        have O5 := Lib.hid ho5
        have H5 := Lib.hid hs5'
        have S5 := Lib.hid st5
        have T5 := Lib.hid hT5
        have TB5 := Lib.hid (HTb.out.step st5 hs5 hr5 hbase)
        have h55 := hs5'.2.2.2.2.1
        have h5s := st5.size
        clear ho5 hs5' st5 hT5
        by_cases hlt : i < 4 + x3
        · have hltI : (i : Int) < 4 + (x3 : Int) := by omega
          have cx := TB5.out.2.2.2.2.1 i (show i < 19 by omega)
          have hob := ord_bd i (by omega)
          obtain ⟨o, hoE⟩ : ∃ o : Nat, orderL.getD i 0 = (o : Int) := ⟨(orderL.getD i 0).toNat, by omega⟩
          rw [hoE] at cx hob
          have ho19 : o < 19 := by omega
          have hoI : (o : Int) < 19 := by omega
          have HOE := Lib.hid hoE
          clear hoE hob
          go_wp2_with fail
          refine (number_any base s r bs p5 out (most : Int) e5 3 wr H5.out HBy.out hl (by omega)).mono ?_
          rintro ev w6 ⟨x, p6, e6, rfl, hx, hs6, st6, tk6, _⟩
          have O6 := Lib.hid (H5.out.row st6 O5.out)
          have H6 := Lib.hid hs6
          have S6 := Lib.hid (S5.out.trans st6)
          have T6 := Lib.hid tk6
          have q1 := O6.out.cellAt o (by omega)
          have q2 := O6.out.frozenAt o
          rw [List.getElem?_map, List.getElem?_eq_getElem (by omega)] at q1
          simp only [Option.map_some] at q1
          clear hs6 st6 tk6 H5 O5 S5 TB5 cx
          go_wp2
          go_roundg (gk - 1)
          case measure => omega
          case rel =>
            have hst := O6.out.stored o (.int .i64 (x : Int))
            refine ⟨i + 1, p6, e6, sh.set o (x : Int), by go_num, by omega, ?_, H6.out.int O6.out h5 hst.2, S6.out.int O6.out (Nat.le_refl _) h5 hst.2, ?_⟩
            · rw [List.map_set]; exact hst.1
            · have h1 := T6.out
              have ho2 : (orderL.getD i 0).toNat = o := by rw [HOE.out]; rfl
              rcases T5.out with ⟨a, b⟩ | ⟨a, b, c⟩
              · left
                refine ⟨?_, b⟩
                rcases took_or h1 with ⟨_, h⟩ | ⟨_, _, _, h⟩
                · rw [h, a]
                · rw [h, a]; rfl
              · subst a
                rcases took_or h1 with ⟨k, h⟩ | ⟨b', k, _, h⟩
                · exact .inr ⟨h, by rw [shortsR, b]; simp only [Res.bind]; rw [k]; simp only [ho2], c⟩
                · obtain rfl := numR_bad k
                  left
                  refine ⟨h, ?_⟩
                  have hbad : shortsR (bitsOf bs) (i + 1) p3 = .bad false := by rw [shortsR, b]; simp only [Res.bind]; rw [k]
                  have := shortsR_bad hbad (4 + x3 - (i + 1))
                  rw [show i + 1 + (4 + x3 - (i + 1)) = 4 + x3 by omega] at this
                  rw [c, this]; rfl
        · have hltI : ¬ (i : Int) < 4 + (x3 : Int) := by omega
          obtain rfl : i = 4 + x3 := by omega
          have T6 := Lib.hid (show (e5 = 4 ∧ T = .bad false) ∨ (e5 = 0 ∧ T = dynG (bitsOf bs) most out x1 x2 sh p5) by
            rcases T5.out with h | ⟨a, b, c⟩
            · exact .inl h
            · exact .inr ⟨a, by rw [c, b]; rfl⟩)
          clear T5
          go_wp2_with fail
          refine (new_any sh _ 19 19 wr (RdI.of_own O5.out) (by omega)).mono ?_
          rintro ev w6 ⟨hx, hb6⟩
          have H6 := Lib.hid (H5.out.below hb6)
          have S6 := Lib.hid (S5.out.trans (StStep.of_below hb6 h55))
          have TB6 := Lib.hid (TB5.out.below hb6)
          have HX := Lib.hid hx
          clear hx hb6 H5 S5 TB5 O5
          rcases HX.out with ⟨hx0, rfl⟩ | ⟨hx0, gd, rfl, hgd, hdx⟩
          · have HE := Lib.hid (show (if e5 = 0 then (4 : Int) else e5) = 4 ∧ T = .bad false by
              rcases T6.out with ⟨a, b⟩ | ⟨a, b⟩
              · rw [a]; exact ⟨rfl, b⟩
              · rw [dynG, if_neg (by rw [hx0]; simp)] at b
                rw [if_pos a]; exact ⟨rfl, b⟩)
            clear HX T6
            go_wp2_with fail
            refine (fail_any base s r bs p5 out (most : Int) e5 4 w6 H6.out).mono ?_
            rintro ev w7 ⟨rfl, h7', s7, _⟩
            rw [HE.out.1] at h7'
            have H7 := Lib.hid h7'
            have S7 := Lib.hid (S6.out.trans s7)
            obtain ⟨_, _, _, _, _, _, vv, q7, _, _⟩ := h7'
            have c3 := q7.cell (i := 3) (v := .int .i64 4) rfl
            clear s7 q7
            go_wp2
            go_end0
            exact ⟨p5, out, 4, rfl, H7.out, S7.out, ho, by rw [HE.out.2]; rfl⟩
          · have DX := Lib.hid hdx
            clear HX hdx
            obtain ⟨_, p5l, _, _, h56, _, vv, q7, _, _⟩ := H6.out
            have c3 := q7.cell (i := 3) (v := .int .i64 e5) rfl
            clear q7
            rcases T6.out with ⟨rfl, hTb⟩ | ⟨rfl, hTk⟩
            · have HTb' := Lib.hid hTb
              clear hTb T6
              go_wp2
              go_end0
              exact ⟨p5, out, 4, rfl, H6.out, S6.out, ho, by rw [HTb'.out]; rfl⟩
            ·
              rw [dynG, if_pos hx0, bitsOf_len] at hTk
              have HTk := Lib.hid hTk
              clear hTk T6
              have hnm : (257 + x1 + (1 + x2) : Nat) ≤ 1000 := by omega
              go_wp2_with fail
              rw [show (257 + (x1 : Int) + (1 + (x2 : Int))) = ((257 + x1 + (1 + x2) : Nat) : Int) by omega]
              refine (lengths_any base s r gd bs sh p5 out most (257 + x1 + (1 + x2)) w6 H6.out DX.out hx0 HBy.out hl hnm).mono ?_
              rintro ev w7 ⟨A7, m7, c7, p7, e7, rfl, hc7, hs7, st7, ag7⟩
              have H7 := Lib.hid hs7
              have S7 := Lib.hid (S6.out.trans st7)
              have TB7 := Lib.hid (TB6.out.step st7 hs5 hr5 hbase)
              have AG := Lib.hid ag7
              obtain ⟨_, p7l, _, _, h57, _, vv, q7, _, _⟩ := hs7
              have c3' := q7.cell (i := 3) (v := .int .i64 e7) rfl
              clear q7 st7 ag7 H6 S6 TB6 DX c3
              rcases hlr : lensR (bitsOf bs) sh (257 + x1 + (1 + x2)) (8 * bs.length + 1) [] p5 with ⟨all, q⟩ | b
              · rw [hlr] at AG HTk
                clear hlr
                obtain ⟨he7, hpq, hm7, hrd⟩ := AG.out
                subst he7 hpq hm7
                simp only [Res.bind] at HTk
                clear AG
                obtain ⟨ba, offa, rfl, hblt, hcells⟩ := hrd.2 (by omega)
                have HRd := Lib.hid hrd
                have ca := hcells 256 (by omega)
                have hal : all.length = 257 + x1 + (1 + x2) := HRd.out.1
                have HAl := Lib.hid hal
                clear hcells hrd hal
                by_cases ha0 : all.getD 256 0 = 0
                · rw [ha0] at ca
                  rw [if_pos ha0] at HTk
                  clear ha0
                  go_wp2_with (go_at_call 32; refine (fail_any base s r bs p7 out (most : Int) 0 4 w7 H7.out).mono ?_; rintro ev w8 ⟨rfl, h5', s5, _⟩; have H8 := Lib.hid h5'; have S8 := Lib.hid (S7.out.trans s5); have c38 := h5'.c3; clear h5' s5)
                  go_end0
                  exact ⟨p7, out, 4, rfl, H8.out, S8.out, ho, by rw [HTk.out]; rfl⟩
                · rw [if_neg ha0] at HTk
                  generalize all.getD 256 0 = a0 at *
                  have ha0' : (a0 == 0) = false := by simpa using ha0
                  clear ha0
                  have f1 : (0 : Int) ≤ 257 + (x1 : Int) := by omega
                  have f2 : (257 : Int) + (x1 : Int) ≤ c7 := by omega
                  have f3 : (257 : Int) + (x1 : Int) ≤ ((257 + x1 + (1 + x2) : Nat) : Int) := by omega
                  have f4 : 257 + x1 ≠ c7 := by omega
                  go_wp2
                  refine wp_region_qs (fun _ _ => True) [(0, some 0), (1, some 1), (2, some 1), (3, some 0), (4, some 1), (5, some 1), (6, some 0), (7, none)] (by kernel_rfl) (by kernel_rfl) (by kernel_rfl) (by kernel_rfl) (by kernel_rfl) (fun _ _ _ _ _ h => h) trivial ?_
                  simp only [List.map_cons, List.map_nil, List.getD_cons_succ, List.getD_cons_zero]
                  (repeat (first | (refine qs_now (v := ?_) (by rfl) ?_ ?_; rotate_left 1; (· (intro w' hS; go_simp; (try (simp only [↓IntWalk.iteOmega]; go_simp)); (try simp (disch := omega) only [IntWalk.i64_in]); try with_reducible rfl)); simp only [Act.put, List.setIfInBounds_toArray, List.set_cons_zero, List.set_cons_succ]) | (refine qs_run (v := ?_) (by rfl) ?_ ?_; rotate_left 1; (· (intro j w' hS; go_simp; (try (simp only [↓IntWalk.iteOmega]; go_simp)); (try simp (disch := omega) only [IntWalk.i64_in]); try with_reducible rfl)); simp only [Act.put, List.setIfInBounds_toArray, List.set_cons_zero, List.set_cons_succ]) | (refine qs_mid (v := ?_) (by rfl) ?_ ?_; rotate_left 1; (· (intro j w' hj1 hj2 hS; go_simp; (try (simp only [↓IntWalk.iteOmega]; go_simp)); (try simp (disch := omega) only [IntWalk.i64_in]); try with_reducible rfl)); simp only [Act.put, List.setIfInBounds_toArray, List.set_cons_zero, List.set_cons_succ]) | (refine qs_skip (by rfl) ?_; simp only [Act.put, List.setIfInBounds_toArray, List.set_cons_zero, List.set_cons_succ])))
                  refine qs_act ?_
                  go_wp2_with fail
                  have hdr := (Below.refl w7.heap.size w7).drew
                  have hr1 := rd_take (HRd.out.below hdr) (257 + x1) (by omega)
                  have hr2 := rd_from (HRd.out.below hdr) (257 + x1) (by omega)
                  refine (coded_any base s r bs (all.take (257 + x1)) (all.drop (257 + x1)) p7 out most _ _ _ _ c7 (c7 - (257 + x1)) w7.drew (H7.out.below hdr) hr1 hr2 (by omega) (by omega) (TB7.out.below hdr) hs5 hr5 HBy.out hl hm ho).mono ?_
                  rintro ev w8 ⟨p8, o8, e8, rfl, hs8, st8, ho8, ag8⟩
                  rw [← HTk.out] at ag8
                  have H8 := Lib.hid hs8
                  have S8 := Lib.hid (S7.out.trans ((StStep.of_below hdr h57).trans st8))
                  have A8 := Lib.hid ag8
                  clear hs8 st8 ag8 hr1 hr2
                  go_wp2
                  refine ⟨trivial, ?_⟩
                  refine qs_nil ?_
                  go_wp2
                  go_end0
                  exact ⟨p8, o8, e8, rfl, H8.out, S8.out, ho8, A8.out⟩
              · rw [hlr] at AG HTk
                clear hlr
                have he7 : e7 = errOf b := AG.out
                have hne := errOf_ne b
                have HE7 := Lib.hid he7
                have hne7 : (e7 == 0) = false := by rw [he7]; simpa using hne
                clear he7 hne AG
                go_wp2
                go_end0
                exact ⟨p7, out, e7, rfl, H7.out, S7.out, ho, by rw [HTk.out]; exact HE7.out⟩
  · have hb1I : ¬ (286 : Int) < 257 + (x1 : Int) := by omega
    have hb1D : decide ((286 : Int) < 257 + (x1 : Int)) = false := by simpa using hb1I
    have hb2I : ¬ (30 : Int) < 1 + (x2 : Int) := by omega
    rw [if_neg hbig] at T3
    have H4 := H3
    have S4 := S3
    have T4 := T3
    clear H3 S3 T3 hbig
    go_wp2_with (first
      | (refine mk_ints rfl (.const (.int .i64 19)) (.const (.int .i64 19)) rfl w.heap.size 19 _ _ rfl rfl rfl rfl (by omega) S4.out.size ?_; intro w9 ho9 hg9; have O9 := Lib.hid ho9; have G9 := Lib.hid hg9; clear ho9 hg9))
    have B9 := Lib.hid (bl_n (Below.refl _ _) G9.out)
    have H9 := Lib.hid (H4.out.below B9.out)
    have S9 := Lib.hid (S4.out.trans (StStep.of_below B9.out H4.out.2.2.2.2.1))
    clear H4 S4 G9 B9 hsl
    go_loopg [31] (4 + x3) (ShI base s r bs out p3 most (4 + x3) w3.heap.size 19 T (dynG (bitsOf bs) most out x1 x2) w)
    case atStart =>
      refine ⟨0, p3, e3, List.replicate 19 0, rfl, by omega, by simpa using O9.out, H9.out, S9.out, ?_⟩
      rcases T4.out with h | ⟨a, b⟩
      · first | exact .inl h | exact .inl ⟨rfl, h.2⟩
      · exact .inr ⟨a, rfl, b⟩
    case round =>
      clear O9 H9 S9 T4
      obtain ⟨i, p5, e5, sh, rfl, hi, ho5, hs5', st5, hT5⟩ := hrel
      have hshl : sh.length = 19 := by simpa using ho5.1
      have O5 := Lib.hid ho5
      have H5 := Lib.hid hs5'
      have S5 := Lib.hid st5
      have T5 := Lib.hid hT5
      have TB5 := Lib.hid (HTb.out.step st5 hs5 hr5 hbase)
      have h55 := hs5'.2.2.2.2.1
      have h5s := st5.size
      clear ho5 hs5' st5 hT5
      by_cases hlt : i < 4 + x3
      · have hltI : (i : Int) < 4 + (x3 : Int) := by omega
        have cx := TB5.out.2.2.2.2.1 i (show i < 19 by omega)
        have hob := ord_bd i (by omega)
        obtain ⟨o, hoE⟩ : ∃ o : Nat, orderL.getD i 0 = (o : Int) := ⟨(orderL.getD i 0).toNat, by omega⟩
        rw [hoE] at cx hob
        have ho19 : o < 19 := by omega
        have hoI : (o : Int) < 19 := by omega
        have HOE := Lib.hid hoE
        clear hoE hob
        go_wp2_with fail
        refine (number_any base s r bs p5 out (most : Int) e5 3 wr H5.out HBy.out hl (by omega)).mono ?_
        rintro ev w6 ⟨x, p6, e6, rfl, hx, hs6, st6, tk6, _⟩
        have O6 := Lib.hid (H5.out.row st6 O5.out)
        have H6 := Lib.hid hs6
        have S6 := Lib.hid (S5.out.trans st6)
        have T6 := Lib.hid tk6
        have q1 := O6.out.cellAt o (by omega)
        have q2 := O6.out.frozenAt o
        rw [List.getElem?_map, List.getElem?_eq_getElem (by omega)] at q1
        simp only [Option.map_some] at q1
        clear hs6 st6 tk6 H5 O5 S5 TB5 cx
        go_wp2
        go_roundg (gk - 1)
        case measure => omega
        case rel =>
          have hst := O6.out.stored o (.int .i64 (x : Int))
          refine ⟨i + 1, p6, e6, sh.set o (x : Int), by go_num, by omega, ?_, H6.out.int O6.out h5 hst.2, S6.out.int O6.out (Nat.le_refl _) h5 hst.2, ?_⟩
          · rw [List.map_set]; exact hst.1
          · have h1 := T6.out
            have ho2 : (orderL.getD i 0).toNat = o := by rw [HOE.out]; rfl
            rcases T5.out with ⟨a, b⟩ | ⟨a, b, c⟩
            · left
              refine ⟨?_, b⟩
              rcases took_or h1 with ⟨_, h⟩ | ⟨_, _, _, h⟩
              · rw [h, a]
              · rw [h, a]; rfl
            · subst a
              rcases took_or h1 with ⟨k, h⟩ | ⟨b', k, _, h⟩
              · exact .inr ⟨h, by rw [shortsR, b]; simp only [Res.bind]; rw [k]; simp only [ho2], c⟩
              · obtain rfl := numR_bad k
                left
                refine ⟨h, ?_⟩
                have hbad : shortsR (bitsOf bs) (i + 1) p3 = .bad false := by rw [shortsR, b]; simp only [Res.bind]; rw [k]
                have := shortsR_bad hbad (4 + x3 - (i + 1))
                rw [show i + 1 + (4 + x3 - (i + 1)) = 4 + x3 by omega] at this
                rw [c, this]; rfl
      · have hltI : ¬ (i : Int) < 4 + (x3 : Int) := by omega
        obtain rfl : i = 4 + x3 := by omega
        have T6 := Lib.hid (show (e5 = 4 ∧ T = .bad false) ∨ (e5 = 0 ∧ T = dynG (bitsOf bs) most out x1 x2 sh p5) by
          rcases T5.out with h | ⟨a, b, c⟩
          · exact .inl h
          · exact .inr ⟨a, by rw [c, b]; rfl⟩)
        clear T5
        go_wp2_with fail
        refine (new_any sh _ 19 19 wr (RdI.of_own O5.out) (by omega)).mono ?_
        rintro ev w6 ⟨hx, hb6⟩
        have H6 := Lib.hid (H5.out.below hb6)
        have S6 := Lib.hid (S5.out.trans (StStep.of_below hb6 h55))
        have TB6 := Lib.hid (TB5.out.below hb6)
        have HX := Lib.hid hx
        clear hx hb6 H5 S5 TB5 O5
        rcases HX.out with ⟨hx0, rfl⟩ | ⟨hx0, gd, rfl, hgd, hdx⟩
        · have HE := Lib.hid (show (if e5 = 0 then (4 : Int) else e5) = 4 ∧ T = .bad false by
            rcases T6.out with ⟨a, b⟩ | ⟨a, b⟩
            · rw [a]; exact ⟨rfl, b⟩
            · rw [dynG, if_neg (by rw [hx0]; simp)] at b
              rw [if_pos a]; exact ⟨rfl, b⟩)
          clear HX T6
          go_wp2_with fail
          refine (fail_any base s r bs p5 out (most : Int) e5 4 w6 H6.out).mono ?_
          rintro ev w7 ⟨rfl, h7', s7, _⟩
          rw [HE.out.1] at h7'
          have H7 := Lib.hid h7'
          have S7 := Lib.hid (S6.out.trans s7)
          obtain ⟨_, _, _, _, _, _, vv, q7, _, _⟩ := h7'
          have c3 := q7.cell (i := 3) (v := .int .i64 4) rfl
          clear s7 q7
          go_wp2
          go_end0
          exact ⟨p5, out, 4, rfl, H7.out, S7.out, ho, by rw [HE.out.2]; rfl⟩
        · have DX := Lib.hid hdx
          clear HX hdx
          obtain ⟨_, p5l, _, _, h56, _, vv, q7, _, _⟩ := H6.out
          have c3 := q7.cell (i := 3) (v := .int .i64 e5) rfl
          clear q7
          rcases T6.out with ⟨rfl, hTb⟩ | ⟨rfl, hTk⟩
          · have HTb' := Lib.hid hTb
            clear hTb T6
            go_wp2
            go_end0
            exact ⟨p5, out, 4, rfl, H6.out, S6.out, ho, by rw [HTb'.out]; rfl⟩
          ·
            rw [dynG, if_pos hx0, bitsOf_len] at hTk
            have HTk := Lib.hid hTk
            clear hTk T6
            have hnm : (257 + x1 + (1 + x2) : Nat) ≤ 1000 := by omega
            go_wp2_with fail
            rw [show (257 + (x1 : Int) + (1 + (x2 : Int))) = ((257 + x1 + (1 + x2) : Nat) : Int) by omega]
            refine (lengths_any base s r gd bs sh p5 out most (257 + x1 + (1 + x2)) w6 H6.out DX.out hx0 HBy.out hl hnm).mono ?_
            rintro ev w7 ⟨A7, m7, c7, p7, e7, rfl, hc7, hs7, st7, ag7⟩
            have H7 := Lib.hid hs7
            have S7 := Lib.hid (S6.out.trans st7)
            have TB7 := Lib.hid (TB6.out.step st7 hs5 hr5 hbase)
            have AG := Lib.hid ag7
            obtain ⟨_, p7l, _, _, h57, _, vv, q7, _, _⟩ := hs7
            have c3' := q7.cell (i := 3) (v := .int .i64 e7) rfl
            clear q7 st7 ag7 H6 S6 TB6 DX c3
            rcases hlr : lensR (bitsOf bs) sh (257 + x1 + (1 + x2)) (8 * bs.length + 1) [] p5 with ⟨all, q⟩ | b
            · rw [hlr] at AG HTk
              clear hlr
              obtain ⟨he7, hpq, hm7, hrd⟩ := AG.out
              subst he7 hpq hm7
              simp only [Res.bind] at HTk
              clear AG
              obtain ⟨ba, offa, rfl, hblt, hcells⟩ := hrd.2 (by omega)
              have HRd := Lib.hid hrd
              have ca := hcells 256 (by omega)
              have hal : all.length = 257 + x1 + (1 + x2) := HRd.out.1
              have HAl := Lib.hid hal
              clear hcells hrd hal
              by_cases ha0 : all.getD 256 0 = 0
              · rw [ha0] at ca
                rw [if_pos ha0] at HTk
                clear ha0
                go_wp2_with (go_at_call 32; refine (fail_any base s r bs p7 out (most : Int) 0 4 w7 H7.out).mono ?_; rintro ev w8 ⟨rfl, h5', s5, _⟩; have H8 := Lib.hid h5'; have S8 := Lib.hid (S7.out.trans s5); have c38 := h5'.c3; clear h5' s5)
                go_end0
                exact ⟨p7, out, 4, rfl, H8.out, S8.out, ho, by rw [HTk.out]; rfl⟩
              · rw [if_neg ha0] at HTk
                generalize all.getD 256 0 = a0 at *
                have ha0' : (a0 == 0) = false := by simpa using ha0
                clear ha0
                have f1 : (0 : Int) ≤ 257 + (x1 : Int) := by omega
                have f2 : (257 : Int) + (x1 : Int) ≤ c7 := by omega
                have f3 : (257 : Int) + (x1 : Int) ≤ ((257 + x1 + (1 + x2) : Nat) : Int) := by omega
                have f4 : 257 + x1 ≠ c7 := by omega
                go_wp2
                refine wp_region_qs (fun _ _ => True) [(0, some 0), (1, some 1), (2, some 1), (3, some 0), (4, some 1), (5, some 1), (6, some 0), (7, none)] (by kernel_rfl) (by kernel_rfl) (by kernel_rfl) (by kernel_rfl) (by kernel_rfl) (fun _ _ _ _ _ h => h) trivial ?_
                simp only [List.map_cons, List.map_nil, List.getD_cons_succ, List.getD_cons_zero]
                (repeat (first | (refine qs_now (v := ?_) (by rfl) ?_ ?_; rotate_left 1; (· (intro w' hS; go_simp; (try (simp only [↓IntWalk.iteOmega]; go_simp)); (try simp (disch := omega) only [IntWalk.i64_in]); try with_reducible rfl)); simp only [Act.put, List.setIfInBounds_toArray, List.set_cons_zero, List.set_cons_succ]) | (refine qs_run (v := ?_) (by rfl) ?_ ?_; rotate_left 1; (· (intro j w' hS; go_simp; (try (simp only [↓IntWalk.iteOmega]; go_simp)); (try simp (disch := omega) only [IntWalk.i64_in]); try with_reducible rfl)); simp only [Act.put, List.setIfInBounds_toArray, List.set_cons_zero, List.set_cons_succ]) | (refine qs_mid (v := ?_) (by rfl) ?_ ?_; rotate_left 1; (· (intro j w' hj1 hj2 hS; go_simp; (try (simp only [↓IntWalk.iteOmega]; go_simp)); (try simp (disch := omega) only [IntWalk.i64_in]); try with_reducible rfl)); simp only [Act.put, List.setIfInBounds_toArray, List.set_cons_zero, List.set_cons_succ]) | (refine qs_skip (by rfl) ?_; simp only [Act.put, List.setIfInBounds_toArray, List.set_cons_zero, List.set_cons_succ])))
                refine qs_act ?_
                go_wp2_with fail
                have hdr := (Below.refl w7.heap.size w7).drew
                have hr1 := rd_take (HRd.out.below hdr) (257 + x1) (by omega)
                have hr2 := rd_from (HRd.out.below hdr) (257 + x1) (by omega)
                refine (coded_any base s r bs (all.take (257 + x1)) (all.drop (257 + x1)) p7 out most _ _ _ _ c7 (c7 - (257 + x1)) w7.drew (H7.out.below hdr) hr1 hr2 (by omega) (by omega) (TB7.out.below hdr) hs5 hr5 HBy.out hl hm ho).mono ?_
                rintro ev w8 ⟨p8, o8, e8, rfl, hs8, st8, ho8, ag8⟩
                rw [← HTk.out] at ag8
                have H8 := Lib.hid hs8
                have S8 := Lib.hid (S7.out.trans ((StStep.of_below hdr h57).trans st8))
                have A8 := Lib.hid ag8
                clear hs8 st8 ag8 hr1 hr2
                go_wp2
                refine ⟨trivial, ?_⟩
                refine qs_nil ?_
                go_wp2
                go_end0
                exact ⟨p8, o8, e8, rfl, H8.out, S8.out, ho8, A8.out⟩
            · rw [hlr] at AG HTk
              clear hlr
              have he7 : e7 = errOf b := AG.out
              have hne := errOf_ne b
              have HE7 := Lib.hid he7
              have hne7 : (e7 == 0) = false := by rw [he7]; simpa using hne
              clear he7 hne AG
              go_wp2
              go_end0
              exact ⟨p7, out, e7, rfl, H7.out, S7.out, ho, by rw [HTk.out]; exact HE7.out⟩
end Go.Proofs.YtacidmamfkfipaaDoor
