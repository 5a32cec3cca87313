/-
  The document's matches.
  The document's coded blocks.
  The document's fixed lengths.
-/
import Derived.Test.YtlhaehefhhcgaaaDoorRefA
namespace Go.Proofs.YtlhaehefhhcgaaaDoor
open Go.RowKit
set_option linter.unusedVariables false

def RMat (base s : Nat) (bs out : List Int) (most p far n : Nat) (w : World) (k : Nat) (iv : Value) (wr : World) : Prop :=
  ∃ i : Nat, i + k = n ∧ iv = .int .i64 i ∧ RefOk wr base s bs p (copyR out far i) (most : Int) 0 ∧ StStep w wr base s s

set_option maxHeartbeats 1600000 in
set_option maxRecDepth 100000 in
theorem rmatch_any (base s b : Nat) (bs ds : List Int) (p : Nat) (out : List Int) (most sv : Nat) (w : World) (h : RefOk w base s bs p out (most : Int) 0) (ht : TreeOk w b ds) (hok : countsOk ds = true) (hB : Bytes bs) (hl : bs.length ≤ 1000000000) (hm : most ≤ 65536) (ho : out.length ≤ most) (hv1 : 257 ≤ sv) (hv2 : sv ≤ 1000) :
    Calls Tryd.prog 63 #[.pointer (some ⟨s, 0, none⟩), .int .i64 (sv : Int), .agg #[.map (some b)]] w (RVoid base s bs most (matchR (bitsOf bs) most ds out (sv - 257) p) w) := by
  have HT0 := Lib.hid ht
  have HBy := Lib.hid hB
  have h3 := h.2.2.1
  have hp := h.1
  have L1 := Lib.hid ((Below.refl w.heap.size w).alloc (Nat.le_refl _) (.cells #[.map (some b)] 117))
  have H1 := Lib.hid (h.below L1.out)
  have S1 := Lib.hid (StStep.of_below (s := s) (r := s) L1.out h3)
  have T1 := Lib.hid (ht.below L1.out)
  have K1 := Lib.hid (Blk.made w 117 #[.map (some b)])
  clear h hB ht
  by_cases hv29 : 285 < sv
  · have d1 : decide ((285 : Int) < sv) = true := by simp; omega
    have HTb := Lib.hid (show matchR (bitsOf bs) most ds out (sv - 257) p = .bad false by unfold matchR; rw [if_pos (by omega)])
    go_enter Tryd.func63, Tryd.ntmps63
    go_wp2_with (go_at_call 38; refine (rfail_any base s bs p out (most : Int) 0 4 _ H1.out).mono ?_; rintro ev w5 ⟨rfl, h5', s5, _⟩; have H5 := Lib.hid h5'; have S5 := Lib.hid (S1.out.trans s5); clear h5' s5)
    go_end0
    exact ⟨p, out, 4, rfl, H5.out, S5.out, ho, by rw [HTb.out]; rfl⟩
  have d1 : decide ((285 : Int) < sv) = false := by simp; omega
  obtain ⟨v, hvE⟩ : ∃ v : Nat, sv = 257 + v := ⟨sv - 257, by omega⟩
  have hv' : v < 29 := by omega
  have HTu := Lib.hid (show matchR (bitsOf bs) most ds out (sv - 257) p = (numR (bitsOf bs) p (lbits.getD v 0).toNat).bind fun x p => (symR (bitsOf bs) ds p).bind fun k p =>
    if 30 ≤ k then .bad false else
    (numR (bitsOf bs) p (dbits.getD k 0).toNat).bind fun y p =>
      if out.length < (dbases.getD k 0).toNat + y then .bad false else
      if most < out.length + ((lbases.getD v 0).toNat + x) then .bad true else
      .ok (copyR out ((dbases.getD k 0).toNat + y) ((lbases.getD v 0).toNat + x)) p by rw [show sv - 257 = v by omega]; unfold matchR; rw [if_neg (by omega)])
  generalize matchR (bitsOf bs) most ds out (sv - 257) p = T at *
  have hlb := lb_bd v hv'
  obtain ⟨lb, hlb1⟩ : ∃ lb : Nat, lbases.getD v 0 = lb := ⟨(lbases.getD v 0).toNat, by omega⟩
  obtain ⟨lx, hlx1⟩ : ∃ lx : Nat, lbits.getD v 0 = lx := ⟨(lbits.getD v 0).toNat, by omega⟩
  rw [hlb1] at hlb HTu
  rw [hlx1] at hlb HTu
  simp only [Int.toNat_natCast] at HTu
  have HLb := Lib.hid hlb1
  have HLx := Lib.hid hlx1
  have hsvI : (257 : Int) ≤ sv := by omega
  have hsvJ : (sv : Int) - 257 < 29 := by omega
  have HVe := Lib.hid hvE
  clear hlb1 hlx1 hvE hv29
  go_enter Tryd.func63, Tryd.ntmps63
  go_wp2_with fail
  obtain ⟨w1, hw1⟩ : ∃ w1, w1 = w.alloc (.cells #[.map (some b)] 117) := ⟨_, rfl⟩
  rw [← hw1] at L1 H1 S1 T1 K1
  rw [← hw1]
  have h31 : base ≤ w1.heap.size := H1.out.2.2.1
  clear hw1 L1 HT0
  refine (rlb_any w1).mono ?_
  rintro ev w2 ⟨ga, rfl, ka, hga, hb2⟩
  have KA := Lib.hid ka
  have B2 := Lib.hid hb2
  clear ka hb2
  go_wp2_with fail
  refine (rlx_any w2).mono ?_
  rintro ev w3 ⟨gb, rfl, kb, hgb, hb3⟩
  have KB := Lib.hid kb
  have B3 := Lib.hid hb3
  clear kb hb3
  go_wp2_with fail
  refine (rdb_any w3).mono ?_
  rintro ev w4 ⟨gc, rfl, kc, hgc, hb4⟩
  have KC := Lib.hid kc
  have B4 := Lib.hid hb4
  clear kc hb4
  go_wp2_with fail
  refine (rdx_any w4).mono ?_
  rintro ev w5 ⟨gd, rfl, kd, hgd, hb5⟩
  have KD5 := Lib.hid kd
  have KC5 := Lib.hid (KC.out.below hb5 KC.out.lt)
  have KB5 := Lib.hid ((KB.out.below B4.out KB.out.lt).below hb5 (Nat.lt_of_lt_of_le KB.out.lt B4.out.size))
  have B25 := Lib.hid (below_chain (below_chain B3.out B4.out) hb5)
  have KA5 := Lib.hid (KA.out.below B25.out KA.out.lt)
  have B15 := Lib.hid (below_chain B2.out B25.out)
  have H5 := Lib.hid (H1.out.below B15.out)
  have S5 := Lib.hid (S1.out.trans (StStep.of_below B15.out h31))
  have T5 := Lib.hid (T1.out.below B15.out)
  have KT5 := Lib.hid (K1.out.below B15.out K1.out.lt)
  have h35 := H5.out.2.2.1
  clear kd hb5 KA KB KC B2 B3 B4 B25 B15 H1 S1 T1 K1
  have e1 : (sv : Int) - 257 = (v : Int) := by have := HVe.out; omega
  have e2 : ((sv : Int) - 257).toNat = v := by omega
  have q1 := tab_cell KA5.out (j := v) hv'
  have q2 := tab_cell KB5.out (j := v) hv'
  rw [HLb.out] at q1
  rw [HLx.out] at q2
  rw [← e2] at q1 q2
  clear e1 e2
  go_wp2
  refine wp_region_qs (fun j w' => (j ≤ 1 → w'.cell? ⟨ga, ((sv : Int) - 257).toNat, none⟩ = some (.int .i64 (lb : Int))) ∧ (j ≤ 0 → w'.cell? ⟨gb, ((sv : Int) - 257).toNat, none⟩ = some (.int .i64 (lx : Int)))) [(0, some 1), (1, some 1), (2, some 1), (3, some 1), (4, some 1), (5, some 0), (6, some 1), (7, some 1), (8, some 1), (9, some 1), (10, some 0), (11, none), (12, some 1), (13, some 1)] (by kernel_rfl) (by kernel_rfl) (by kernel_rfl) (by kernel_rfl) (by kernel_rfl) (fun _ _ _ _ _ h => h) ⟨fun _ => q1, fun _ => q2⟩ ?_
  simp only [List.map_cons, List.map_nil, List.getD_cons_succ, List.getD_cons_zero]
  (repeat (first | (refine qs_now (v := ?_) (by rfl) ?_ ?_; rotate_left 1; (· (intro w' hS; go_simp; (try (simp only [↓IntWalk.iteOmega]; go_simp)); (try simp (disch := omega) only [IntWalk.i64_in]); try with_reducible rfl)); simp only [Act.put, List.setIfInBounds_toArray, List.set_cons_zero, List.set_cons_succ]) | (refine qs_run (v := ?_) (by rfl) ?_ ?_; rotate_left 1; (· (intro j w' hS; go_simp; (try (simp only [↓IntWalk.iteOmega]; go_simp)); (try simp (disch := omega) only [IntWalk.i64_in]); try with_reducible rfl)); simp only [Act.put, List.setIfInBounds_toArray, List.set_cons_zero, List.set_cons_succ]) | (refine qs_mid (v := ?_) (by rfl) ?_ ?_; rotate_left 1; (· (intro j w' hj1 hj2 hS; go_simp; (try (simp only [↓IntWalk.iteOmega]; go_simp)); (try simp (disch := omega) only [IntWalk.i64_in]); try with_reducible rfl)); simp only [Act.put, List.setIfInBounds_toArray, List.set_cons_zero, List.set_cons_succ]) | (refine qs_skip (by rfl) ?_; simp only [Act.put, List.setIfInBounds_toArray, List.set_cons_zero, List.set_cons_succ])))
  refine qs_act ?_
  go_wp2_with fail
  have hdr5 := (Below.refl w5.heap.size w5).drew
  refine (rnumber_any base s bs p out (most : Int) 0 lx w5.drew (H5.out.below hdr5) HBy.out hl (by omega)).mono ?_
  rintro ev w6 ⟨x, p1, e1, rfl, hx, hs6, st6, tk6, -⟩
  have st56 := (StStep.of_below (s := s) (r := s) hdr5 h35).trans st6
  have H6 := Lib.hid hs6
  have S6 := Lib.hid (S5.out.trans st56)
  have KA6 := Lib.hid (H5.out.keepBlk st56 KA5.out (by decide) (by decide))
  have KC6 := Lib.hid (H5.out.keepBlk st56 KC5.out (by decide) (by decide))
  have KD6 := Lib.hid (H5.out.keepBlk st56 KD5.out (by decide) (by decide))
  have KT6 := Lib.hid (H5.out.keepBlk st56 KT5.out (by decide) (by decide))
  have T6 := Lib.hid (T5.out.step st56 H5.out.sblk)
  have TT1 := Lib.hid (rtook_next (fun b => numR_bad) (.inr ⟨rfl, HTu.out⟩) tk6)
  have hx32 : x < 32 := Nat.lt_of_lt_of_le hx (Nat.pow_le_pow_right (n := 2) (i := lx) (j := 5) (by omega) (by omega))
  have q1' := tab_cell KA6.out (j := v) hv'
  rw [HLb.out, show v = ((sv : Int) - 257).toNat by have := HVe.out; omega] at q1'
  have kt := KT6.out.cell (i := 0) rfl
  clear hdr5 hs6 st6 tk6 st56 H5 S5 KA5 KB5 KC5 KD5 KT5 T5 HTu q1 q2 hx KA6
  go_wp2
  refine ⟨⟨fun _ => q1', fun h => absurd h (by omega)⟩, ?_⟩
  (repeat (first | (refine qs_now (v := ?_) (by rfl) ?_ ?_; rotate_left 1; (· (intro w' hS; go_simp; (try (simp only [↓IntWalk.iteOmega]; go_simp)); (try simp (disch := omega) only [IntWalk.i64_in]); try with_reducible rfl)); simp only [Act.put, List.setIfInBounds_toArray, List.set_cons_zero, List.set_cons_succ]) | (refine qs_run (v := ?_) (by rfl) ?_ ?_; rotate_left 1; (· (intro j w' hS; go_simp; (try (simp only [↓IntWalk.iteOmega]; go_simp)); (try simp (disch := omega) only [IntWalk.i64_in]); try with_reducible rfl)); simp only [Act.put, List.setIfInBounds_toArray, List.set_cons_zero, List.set_cons_succ]) | (refine qs_mid (v := ?_) (by rfl) ?_ ?_; rotate_left 1; (· (intro j w' hj1 hj2 hS; go_simp; (try (simp only [↓IntWalk.iteOmega]; go_simp)); (try simp (disch := omega) only [IntWalk.i64_in]); try with_reducible rfl)); simp only [Act.put, List.setIfInBounds_toArray, List.set_cons_zero, List.set_cons_succ]) | (refine qs_skip (by rfl) ?_; simp only [Act.put, List.setIfInBounds_toArray, List.set_cons_zero, List.set_cons_succ])))
  refine qs_nil ?_
  rw [show ((sv : Int) - 257).toNat = v by have := HVe.out; omega]
  go_wp2_with fail
  refine (rsymbol_any base s b bs ds p1 out (most : Int) e1 w6 H6.out T6.out hok HBy.out hl).mono ?_
  rintro ev w7 ⟨k, p2, e2, rfl, hk, hs7, st7, tk7⟩
  have H7 := Lib.hid hs7
  have S7 := Lib.hid (S6.out.trans st7)
  have KC7 := Lib.hid (H6.out.keepBlk st7 KC6.out (by decide) (by decide))
  have KD7 := Lib.hid (H6.out.keepBlk st7 KD6.out (by decide) (by decide))
  have TT2 := Lib.hid (rtook_next (fun b => symR_bad) TT1.out tk7)
  have hk288 : k ≤ 288 := by have := len_of hok; omega
  have c47 := hs7.c4
  have h37 := hs7.2.2.1
  clear hs7 st7 tk7 TT1 q1' kt H6 S6 KC6 KD6 KT6 T6
  obtain ⟨n, hnE⟩ : ∃ n : Nat, (n : Int) = (lb : Int) + x := ⟨lb + x, by omega⟩
  have hne : lb + x = n := by omega
  have hn300 : n ≤ 300 := by omega
  have hn1 : 1 ≤ n := by omega
  rw [hne] at TT2
  rw [← hnE]
  clear hnE hne HLb HLx hlb
  rcases TT2.out with ⟨rfl, hTb⟩ | ⟨rfl, hTT⟩
  · have HTb := Lib.hid hTb
    clear hTb TT2
    go_wp2
    go_end0
    exact ⟨p2, out, 4, rfl, H7.out, S7.out, ho, by rw [HTb.out]; rfl⟩
  have HT2 := Lib.hid hTT
  clear hTT TT2
  by_cases hk30 : 30 ≤ k
  · have d2 : decide ((29 : Int) < k) = true := by simp; omega
    rw [if_pos hk30] at HT2
    go_wp2_with fail
    refine (rfail_any base s bs p2 out (most : Int) 0 4 w7 H7.out).mono ?_
    rintro ev w8 ⟨rfl, hs8, st8, _⟩
    rw [if_pos rfl] at hs8
    have H8 := Lib.hid hs8
    have S8 := Lib.hid (S7.out.trans st8)
    clear hs8 st8
    go_wp2
    go_end0
    exact ⟨p2, out, 4, rfl, H8.out, S8.out, ho, by rw [HT2.out]; rfl⟩
  have d2 : decide ((29 : Int) < k) = false := by simp; omega
  rw [if_neg hk30] at HT2
  have hk' : k < 30 := by omega
  have hkI : (k : Int) < 30 := by omega
  have q3 := tab_cell KC7.out (j := k) hk'
  have q4 := tab_cell KD7.out (j := k) hk'
  have hdb := db_bd k hk'
  obtain ⟨db, hdb1⟩ : ∃ db : Nat, dbases.getD k 0 = db := ⟨(dbases.getD k 0).toNat, by omega⟩
  obtain ⟨dx, hdx1⟩ : ∃ dx : Nat, dbits.getD k 0 = dx := ⟨(dbits.getD k 0).toNat, by omega⟩
  rw [hdb1] at q3 hdb HT2
  rw [hdx1] at q4 hdb HT2
  simp only [Int.toNat_natCast] at HT2
  have HDb := Lib.hid hdb1
  clear hdb1 hdx1
  go_wp2
  refine wp_region_qs (fun j w' => (j ≤ 1 → w'.cell? ⟨gc, k, none⟩ = some (.int .i64 (db : Int))) ∧ (j ≤ 0 → w'.cell? ⟨gd, k, none⟩ = some (.int .i64 (dx : Int)))) [(0, some 1), (1, some 1), (2, some 1), (3, some 1), (4, some 0), (5, some 1), (6, some 1), (7, some 1), (8, some 0), (9, none), (10, some 1), (11, some 1)] (by kernel_rfl) (by kernel_rfl) (by kernel_rfl) (by kernel_rfl) (by kernel_rfl) (fun _ _ _ _ _ h => h) ⟨fun _ => q3, fun _ => q4⟩ ?_
  simp only [List.map_cons, List.map_nil, List.getD_cons_succ, List.getD_cons_zero]
  (repeat (first | (refine qs_now (v := ?_) (by rfl) ?_ ?_; rotate_left 1; (· (intro w' hS; go_simp; (try (simp only [↓IntWalk.iteOmega]; go_simp)); (try simp (disch := omega) only [IntWalk.i64_in]); try with_reducible rfl)); simp only [Act.put, List.setIfInBounds_toArray, List.set_cons_zero, List.set_cons_succ]) | (refine qs_run (v := ?_) (by rfl) ?_ ?_; rotate_left 1; (· (intro j w' hS; go_simp; (try (simp only [↓IntWalk.iteOmega]; go_simp)); (try simp (disch := omega) only [IntWalk.i64_in]); try with_reducible rfl)); simp only [Act.put, List.setIfInBounds_toArray, List.set_cons_zero, List.set_cons_succ]) | (refine qs_mid (v := ?_) (by rfl) ?_ ?_; rotate_left 1; (· (intro j w' hj1 hj2 hS; go_simp; (try (simp only [↓IntWalk.iteOmega]; go_simp)); (try simp (disch := omega) only [IntWalk.i64_in]); try with_reducible rfl)); simp only [Act.put, List.setIfInBounds_toArray, List.set_cons_zero, List.set_cons_succ]) | (refine qs_skip (by rfl) ?_; simp only [Act.put, List.setIfInBounds_toArray, List.set_cons_zero, List.set_cons_succ])))
  refine qs_act ?_
  go_wp2_with fail
  have hdr7 := (Below.refl w7.heap.size w7).drew
  refine (rnumber_any base s bs p2 out (most : Int) 0 dx w7.drew (H7.out.below hdr7) HBy.out hl (by omega)).mono ?_
  rintro ev w6 ⟨y, p3, e3, rfl, hy, hs8, st8, tk8, -⟩
  have st78 := (StStep.of_below (s := s) (r := s) hdr7 h37).trans st8
  have H6 := Lib.hid hs8
  have S6 := Lib.hid (S7.out.trans st78)
  have KC8 := Lib.hid (H7.out.keepBlk st78 KC7.out (by decide) (by decide))
  have TT3 := Lib.hid (rtook_next (fun b => numR_bad) (.inr ⟨rfl, HT2.out⟩) tk8)
  have hy13 : y < 8192 := Nat.lt_of_lt_of_le hy (Nat.pow_le_pow_right (n := 2) (i := dx) (j := 13) (by omega) (by omega))
  have q3' := tab_cell KC8.out (j := k) hk'
  rw [HDb.out] at q3'
  obtain ⟨A3, c3, A4, c4, bz, oz, lz⟩ := hs8.parts
  have cc2 := bz.cell (i := 2) (v := .slice A4 out.length c4) rfl
  have cc4 := bz.cell (i := 4) (v := .int .i64 e3) rfl
  clear hdr7 hs8 st8 tk8 st78 H7 S7 KC7 KD7 HT2 q3 q4 hy KC8 bz oz lz c47
  go_wp2
  refine ⟨⟨fun _ => q3', fun h => absurd h (by omega)⟩, ?_⟩
  (repeat (first | (refine qs_now (v := ?_) (by rfl) ?_ ?_; rotate_left 1; (· (intro w' hS; go_simp; (try (simp only [↓IntWalk.iteOmega]; go_simp)); (try simp (disch := omega) only [IntWalk.i64_in]); try with_reducible rfl)); simp only [Act.put, List.setIfInBounds_toArray, List.set_cons_zero, List.set_cons_succ]) | (refine qs_run (v := ?_) (by rfl) ?_ ?_; rotate_left 1; (· (intro j w' hS; go_simp; (try (simp only [↓IntWalk.iteOmega]; go_simp)); (try simp (disch := omega) only [IntWalk.i64_in]); try with_reducible rfl)); simp only [Act.put, List.setIfInBounds_toArray, List.set_cons_zero, List.set_cons_succ]) | (refine qs_mid (v := ?_) (by rfl) ?_ ?_; rotate_left 1; (· (intro j w' hj1 hj2 hS; go_simp; (try (simp only [↓IntWalk.iteOmega]; go_simp)); (try simp (disch := omega) only [IntWalk.i64_in]); try with_reducible rfl)); simp only [Act.put, List.setIfInBounds_toArray, List.set_cons_zero, List.set_cons_succ]) | (refine qs_skip (by rfl) ?_; simp only [Act.put, List.setIfInBounds_toArray, List.set_cons_zero, List.set_cons_succ])))
  refine qs_nil ?_
  obtain ⟨far, hfarE⟩ : ∃ far : Nat, (far : Int) = (db : Int) + y := ⟨db + y, by omega⟩
  have hf1 : 1 ≤ far := by omega
  have hfe : db + y = far := by omega
  rw [hfe] at TT3
  rw [← hfarE]
  clear hfarE hfe HDb q3' hdb
  by_cases hfar : out.length < far
  · have hfarI : (out.length : Int) < (far : Int) := by omega
    have HE := Lib.hid (show (if e3 = 0 then (4 : Int) else e3) = 4 ∧ T = .bad false by
      rcases TT3.out with ⟨a, b⟩ | ⟨a, b⟩
      · rw [a]; exact ⟨rfl, b⟩
      · rw [if_pos hfar] at b
        rw [if_pos a]; exact ⟨rfl, b⟩)
    clear TT3
    go_wp2_with fail
    refine (rfail_any base s bs p3 out (most : Int) e3 4 w6 H6.out).mono ?_
    rintro ev w8 ⟨rfl, hs8, st8, _⟩
    rw [HE.out.1] at hs8
    have HTb := Lib.hid HE.out.2
    have H8 := Lib.hid hs8
    have S8 := Lib.hid (S6.out.trans st8)
    clear hs8 st8 H6 S6 HE cc2 cc4
    obtain ⟨A8, c8, A28, c28, b8, _, _⟩ := H8.out.parts
    have g2 := b8.cell (i := 2) (v := .slice A28 out.length c28) rfl
    have g3 := b8.cell (i := 3) (v := .int .i64 (most : Int)) rfl
    have g4 := b8.cell (i := 4) (v := .int .i64 4) rfl
    have hb8 := H8.out.2.2.1
    clear b8
    go_wp2
    refine wp_region_qs (fun _ w' => w'.cell? ⟨s, 2, none⟩ = some (.slice A28 out.length c28) ∧ w'.cell? ⟨s, 3, none⟩ = some (.int .i64 (most : Int)) ∧ w'.cell? ⟨s, 4, none⟩ = some (.int .i64 4)) [(0, some 0), (1, some 0), (2, some 0), (3, some 0), (4, some 0), (5, some 0), (6, some 0), (7, some 0), (8, some 0), (9, some 0), (10, some 0), (11, some 0), (12, some 0), (13, some 0), (14, some 0), (15, some 0), (16, some 0), (17, some 0), (18, some 0)] (by kernel_rfl) (by kernel_rfl) (by kernel_rfl) (by kernel_rfl) (by kernel_rfl) (fun _ _ _ _ _ h => h) ⟨g2, g3, g4⟩ ?_
    simp only [List.map_cons, List.map_nil, List.getD_cons_succ, List.getD_cons_zero]
    (repeat (first | (refine qs_now (v := ?_) (by rfl) ?_ ?_; rotate_left 1; (· (intro w' hS; go_simp; (try (simp only [↓IntWalk.iteOmega]; go_simp)); (try simp (disch := omega) only [IntWalk.i64_in]); try with_reducible rfl)); simp only [Act.put, List.setIfInBounds_toArray, List.set_cons_zero, List.set_cons_succ]) | (refine qs_run (v := ?_) (by rfl) ?_ ?_; rotate_left 1; (· (intro j w' hS; go_simp; (try (simp only [↓IntWalk.iteOmega]; go_simp)); (try simp (disch := omega) only [IntWalk.i64_in]); try with_reducible rfl)); simp only [Act.put, List.setIfInBounds_toArray, List.set_cons_zero, List.set_cons_succ]) | (refine qs_skip (by rfl) ?_; simp only [Act.put, List.setIfInBounds_toArray, List.set_cons_zero, List.set_cons_succ])))
    refine qs_nil ?_
    have hdr8 := (Below.refl w8.heap.size w8).drew
    have H9 := Lib.hid (H8.out.below hdr8)
    have S9 := Lib.hid (S8.out.trans (StStep.of_below hdr8 hb8))
    clear H8 S8 hdr8 g2 g3 g4
    go_wp2
    go_loopg [13] 0 (RDead base s bs out p3 (most : Int) 4 w)
    case atStart => exact ⟨rfl, H9.out, S9.out⟩
    case round =>
      clear H9 S9
      obtain ⟨rfl, hs9, st9⟩ := hrel
      have H9 := Lib.hid hs9
      have S9 := Lib.hid st9
      have c49 := hs9.c4
      clear hs9 st9
      have hn0I : (0 : Int) < n := by omega
      go_wp2
      go_end0
      exact ⟨p3, out, 4, rfl, H9.out, S9.out, ho, by rw [HTb.out]; rfl⟩
  · have hfarI : ¬ (out.length : Int) < (far : Int) := by omega
    rcases TT3.out with ⟨rfl, hTb⟩ | ⟨rfl, hT3⟩
    · have HTb := Lib.hid hTb
      clear hTb TT3
      have H8 := H6
      have S8 := S6
      clear H6 S6
      obtain ⟨A8, c8, A28, c28, b8, _, _⟩ := H8.out.parts
      have g2 := b8.cell (i := 2) (v := .slice A28 out.length c28) rfl
      have g3 := b8.cell (i := 3) (v := .int .i64 (most : Int)) rfl
      have g4 := b8.cell (i := 4) (v := .int .i64 4) rfl
      have hb8 := H8.out.2.2.1
      clear b8
      go_wp2
      refine wp_region_qs (fun _ w' => w'.cell? ⟨s, 2, none⟩ = some (.slice A28 out.length c28) ∧ w'.cell? ⟨s, 3, none⟩ = some (.int .i64 (most : Int)) ∧ w'.cell? ⟨s, 4, none⟩ = some (.int .i64 4)) [(0, some 0), (1, some 0), (2, some 0), (3, some 0), (4, some 0), (5, some 0), (6, some 0), (7, some 0), (8, some 0), (9, some 0), (10, some 0), (11, some 0), (12, some 0), (13, some 0), (14, some 0), (15, some 0), (16, some 0), (17, some 0), (18, some 0)] (by kernel_rfl) (by kernel_rfl) (by kernel_rfl) (by kernel_rfl) (by kernel_rfl) (fun _ _ _ _ _ h => h) ⟨g2, g3, g4⟩ ?_
      simp only [List.map_cons, List.map_nil, List.getD_cons_succ, List.getD_cons_zero]
      (repeat (first | (refine qs_now (v := ?_) (by rfl) ?_ ?_; rotate_left 1; (· (intro w' hS; go_simp; (try (simp only [↓IntWalk.iteOmega]; go_simp)); (try simp (disch := omega) only [IntWalk.i64_in]); try with_reducible rfl)); simp only [Act.put, List.setIfInBounds_toArray, List.set_cons_zero, List.set_cons_succ]) | (refine qs_run (v := ?_) (by rfl) ?_ ?_; rotate_left 1; (· (intro j w' hS; go_simp; (try (simp only [↓IntWalk.iteOmega]; go_simp)); (try simp (disch := omega) only [IntWalk.i64_in]); try with_reducible rfl)); simp only [Act.put, List.setIfInBounds_toArray, List.set_cons_zero, List.set_cons_succ]) | (refine qs_skip (by rfl) ?_; simp only [Act.put, List.setIfInBounds_toArray, List.set_cons_zero, List.set_cons_succ])))
      refine qs_nil ?_
      have hdr8 := (Below.refl w6.heap.size w6).drew
      have H9 := Lib.hid (H8.out.below hdr8)
      have S9 := Lib.hid (S8.out.trans (StStep.of_below hdr8 hb8))
      clear H8 S8 hdr8 g2 g3 g4
      go_wp2
      go_loopg [13] 0 (RDead base s bs out p3 (most : Int) 4 w)
      case atStart => exact ⟨rfl, H9.out, S9.out⟩
      case round =>
        clear H9 S9
        obtain ⟨rfl, hs9, st9⟩ := hrel
        have H9 := Lib.hid hs9
        have S9 := Lib.hid st9
        have c49 := hs9.c4
        clear hs9 st9
        have hn0I : (0 : Int) < n := by omega
        go_wp2
        go_end0
        exact ⟨p3, out, 4, rfl, H9.out, S9.out, ho, by rw [HTb.out]; rfl⟩
    · have HT3 := Lib.hid hT3
      clear hT3 TT3
      rw [if_neg hfar] at HT3
      obtain ⟨A7, c7, A27, c27, b7, o7, l7⟩ := H6.out.parts
      have g2 := b7.cell (i := 2) (v := .slice A27 out.length c27) rfl
      have g3 := b7.cell (i := 3) (v := .int .i64 (most : Int)) rfl
      have g4 := b7.cell (i := 4) (v := .int .i64 0) rfl
      have hb6 := H6.out.2.2.1
      clear b7 o7 l7
      have hdr8 := (Below.refl w6.heap.size w6).drew
      have H5 := Lib.hid (H6.out.below hdr8)
      have S5 := Lib.hid (S6.out.trans (StStep.of_below hdr8 hb6))
      clear H6 S6 hdr8
      by_cases hlong : most < out.length + n
      · have dlong : decide ((most : Int) < (out.length : Int) + n) = true := by simp; omega
        have HTb := Lib.hid (show T = .bad true by rw [HT3.out, if_pos hlong])
        clear HT3
        go_wp2
        refine wp_region_qs (fun _ w' => w'.cell? ⟨s, 2, none⟩ = some (.slice A27 out.length c27) ∧ w'.cell? ⟨s, 3, none⟩ = some (.int .i64 (most : Int)) ∧ w'.cell? ⟨s, 4, none⟩ = some (.int .i64 0)) [(0, some 0), (1, some 0), (2, some 0), (3, some 0), (4, some 0), (5, some 0), (6, some 0), (7, some 0), (8, some 0), (9, some 0), (10, some 0), (11, some 0), (12, some 0), (13, some 0), (14, some 0), (15, some 0), (16, some 0), (17, some 0), (18, some 0)] (by kernel_rfl) (by kernel_rfl) (by kernel_rfl) (by kernel_rfl) (by kernel_rfl) (fun _ _ _ _ _ h => h) ⟨g2, g3, g4⟩ ?_
        simp only [List.map_cons, List.map_nil, List.getD_cons_succ, List.getD_cons_zero]
        (repeat (first | (refine qs_now (v := ?_) (by rfl) ?_ ?_; rotate_left 1; (· (intro w' hS; go_simp; (try (simp only [↓IntWalk.iteOmega]; go_simp)); (try simp (disch := omega) only [IntWalk.i64_in]); try with_reducible rfl)); simp only [Act.put, List.setIfInBounds_toArray, List.set_cons_zero, List.set_cons_succ]) | (refine qs_run (v := ?_) (by rfl) ?_ ?_; rotate_left 1; (· (intro j w' hS; go_simp; (try (simp only [↓IntWalk.iteOmega]; go_simp)); (try simp (disch := omega) only [IntWalk.i64_in]); try with_reducible rfl)); simp only [Act.put, List.setIfInBounds_toArray, List.set_cons_zero, List.set_cons_succ]) | (refine qs_skip (by rfl) ?_; simp only [Act.put, List.setIfInBounds_toArray, List.set_cons_zero, List.set_cons_succ])))
        refine qs_nil ?_
        go_wp2_with fail
        refine (rfail_any base s bs p3 out (most : Int) 0 3 w6.drew H5.out).mono ?_
        rintro ev w7 ⟨rfl, hs5, st5, _⟩
        rw [if_pos rfl] at hs5
        have H9 := Lib.hid hs5
        have S9 := Lib.hid (S5.out.trans st5)
        clear hs5 st5 H5 S5 g2 g3 g4
        go_wp2
        go_loopg [13] 0 (RDead base s bs out p3 (most : Int) 3 w)
        case atStart => exact ⟨rfl, H9.out, S9.out⟩
        case round =>
          clear H9 S9
          obtain ⟨rfl, hs9, st9⟩ := hrel
          have H9 := Lib.hid hs9
          have S9 := Lib.hid st9
          have c49 := hs9.c4
          clear hs9 st9
          have hn0I : (0 : Int) < n := by omega
          go_wp2
          go_end0
          exact ⟨p3, out, 3, rfl, H9.out, S9.out, ho, by rw [HTb.out]; rfl⟩
      · have dlong : decide ((most : Int) < (out.length : Int) + n) = false := by simp; omega
        rw [if_neg hlong] at HT3
        go_wp2
        refine wp_region_qs (fun _ w' => w'.cell? ⟨s, 2, none⟩ = some (.slice A27 out.length c27) ∧ w'.cell? ⟨s, 3, none⟩ = some (.int .i64 (most : Int)) ∧ w'.cell? ⟨s, 4, none⟩ = some (.int .i64 0)) [(0, some 0), (1, some 0), (2, some 0), (3, some 0), (4, some 0), (5, some 0), (6, some 0), (7, some 0), (8, some 0), (9, some 0), (10, some 0), (11, some 0), (12, some 0), (13, some 0), (14, some 0), (15, some 0), (16, some 0), (17, some 0), (18, some 0)] (by kernel_rfl) (by kernel_rfl) (by kernel_rfl) (by kernel_rfl) (by kernel_rfl) (fun _ _ _ _ _ h => h) ⟨g2, g3, g4⟩ ?_
        simp only [List.map_cons, List.map_nil, List.getD_cons_succ, List.getD_cons_zero]
        (repeat (first | (refine qs_now (v := ?_) (by rfl) ?_ ?_; rotate_left 1; (· (intro w' hS; go_simp; (try (simp only [↓IntWalk.iteOmega]; go_simp)); (try simp (disch := omega) only [IntWalk.i64_in]); try with_reducible rfl)); simp only [Act.put, List.setIfInBounds_toArray, List.set_cons_zero, List.set_cons_succ]) | (refine qs_run (v := ?_) (by rfl) ?_ ?_; rotate_left 1; (· (intro j w' hS; go_simp; (try (simp only [↓IntWalk.iteOmega]; go_simp)); (try simp (disch := omega) only [IntWalk.i64_in]); try with_reducible rfl)); simp only [Act.put, List.setIfInBounds_toArray, List.set_cons_zero, List.set_cons_succ]) | (refine qs_skip (by rfl) ?_; simp only [Act.put, List.setIfInBounds_toArray, List.set_cons_zero, List.set_cons_succ])))
        refine qs_nil ?_
        clear g2 g3 g4
        go_wp2
        go_loopg [13] n (RMat base s bs out most p3 far n w)
        case atStart => exact ⟨0, by omega, rfl, H5.out, S5.out⟩
        case round =>
          clear H5 S5
          obtain ⟨i, hi, rfl, hs6, st6⟩ := hrel
          have H6 := Lib.hid hs6
          have S6 := Lib.hid st6
          have g4 := hs6.c4
          have h36 := hs6.2.2.1
          have hBo := hs6.2.2.2.1
          clear hs6 st6
          by_cases hin : i < n
          · have hinI : (i : Int) < n := by omega
            have hol : (copyR out far i).length = out.length + i := copyR_len out far i
            have HBs := Lib.hid (show copyR out far (i + 1) = copyR out far i ++ [(copyR out far i).getD ((copyR out far i).length - far) 0] from rfl)
            generalize ho1 : copyR out far i = o1 at *
            obtain ⟨Ax, cx, Ay, cy, bx, ox, lx⟩ := H6.out.parts
            obtain ⟨g, cy', hv, _, hglt⟩ := ox.form (by omega)
            injection hv with hv _ hv2
            subst hv hv2
            have cc := ox.cells (g := g) rfl (o1.length - far) (Value.int .u8 (o1.getD (o1.length - far) 0)) (by simp [show o1.length - far < o1.length by omega])
            rw [Addr.add_mid, Nat.zero_add] at cc
            have hxb : 0 ≤ o1.getD (o1.length - far) 0 ∧ o1.getD (o1.length - far) 0 < 256 := by
              refine hBo _ ?_
              rw [List.getD_eq_getElem?_getD, List.getElem?_eq_getElem (by omega)]
              exact List.getElem_mem _
            generalize o1.getD (o1.length - far) 0 = x0 at *
            have x2 := bx.cell (i := 2) (v := .slice (some ⟨g, 0, none⟩) o1.length cy) rfl
            have x2' : wr.drew.cell? ⟨s, 2, none⟩ = some (.slice (some ⟨g, 0, none⟩) o1.length cy) := x2
            have hfo : (far : Int) ≤ o1.length := by omega
            have hlo : o1.length ≤ 65536 := by omega
            have BX := Lib.hid bx.drew
            have fx2 := BX.out.free 2
            have OX := Lib.hid ox.drew
            have HR := Lib.hid (H6.out.below (Below.refl _ _).drew)
            have SR := Lib.hid (S6.out.trans (StStep.of_below (Below.refl _ _).drew h36))
            clear ho1 hol bx ox lx H6 S6
            go_wp2
            refine wp_region_qs (fun _ w' => w'.cell? ⟨s, 2, none⟩ = some (.slice (some ⟨g, 0, none⟩) o1.length cy) ∧ w'.cell? ⟨g, o1.length - far, none⟩ = some (.int .u8 x0)) [(0, some 0), (1, some 0), (2, some 0), (3, some 0), (4, some 0), (5, some 0), (6, some 0), (7, some 0), (8, some 0), (9, some 0), (10, some 0), (11, some 0), (12, some 0), (13, some 0)] (by kernel_rfl) (by kernel_rfl) (by kernel_rfl) (by kernel_rfl) (by kernel_rfl) (fun _ _ _ _ _ h => h) ⟨x2, cc⟩ ?_
            simp only [List.map_cons, List.map_nil, List.getD_cons_succ, List.getD_cons_zero]
            (repeat (first | (refine qs_now (v := ?_) (by rfl) ?_ ?_; rotate_left 1; (· (intro w' hS; go_simp; (try (simp only [↓IntWalk.iteOmega]; go_simp)); (try simp (disch := omega) only [IntWalk.i64_in]); try with_reducible rfl)); simp only [Act.put, List.setIfInBounds_toArray, List.set_cons_zero, List.set_cons_succ]) | (refine qs_run (v := ?_) (by rfl) ?_ ?_; rotate_left 1; (· (intro j w' hS; go_simp; (try (simp only [↓IntWalk.iteOmega]; go_simp)); (try simp (disch := omega) only [IntWalk.i64_in]); try with_reducible rfl)); simp only [Act.put, List.setIfInBounds_toArray, List.set_cons_zero, List.set_cons_succ]) | (refine qs_skip (by rfl) ?_; simp only [Act.put, List.setIfInBounds_toArray, List.set_cons_zero, List.set_cons_succ])))
            refine qs_nil ?_
            go_wp2_with (refine app_src rfl (.tmp 118) (.tmp 120) 22 rfl 0 5 _ 1 1 Tryd.underlying22 infoByte rfl (by omega) _ o1.length _ rfl (OX.out.alloc _) _ 1 [Value.int .u8 x0] rfl (src_u8 _ _ _) (by simp [Value.oneCell']) (by omega) (by omega) (Nat.zero_le _) ?_; intro v9 w9 ho9 hg9 hor9; obtain ⟨A9, c9, hv9, _⟩ := own_slice ho9; subst hv9; have hP := ref_push (v9 := .slice A9 (o1.length + 1) c9) (x := x0) HR.out BX.out ((Below.refl _ _).alloc (Nat.le_refl _) _) hg9 hor9 (by simpa using ho9) hxb; have f9 := hP.2.2.free 2; have d9 := hP.2.2.cell (i := 2) rfl; have HP := Lib.hid hP; clear ho9 hg9 hor9 hP)
            go_roundg (gk - 1)
            case measure => omega
            case rel =>
              refine ⟨i + 1, by omega, by go_num, ?_, SR.out.trans HP.out.2.1⟩
              rw [HBs.out]
              exact HP.out.1
          · obtain rfl : i = n := by omega
            go_wp2
            go_end0
            exact ⟨_, _, 0, rfl, H6.out, S6.out, by rw [copyR_len]; omega, by rw [HT3.out]; exact ⟨rfl, rfl, rfl⟩⟩
end Go.Proofs.YtlhaehefhhcgaaaDoor
namespace Go.Proofs.YtlhaehefhhcgaaaDoor
open Go.RowKit
set_option linter.unusedVariables false

def RCod (base s gx gy bx by' : Nat) (bs zs ds : List Int) (most : Nat) (T : Res (List Int)) (w : World) (k : Nat) (wr : World) : Prop :=
  ∃ out p e, RefOk wr base s bs p out (most : Int) e ∧ StStep w wr base s s ∧ out.length ≤ most ∧ Blk wr gx 117 #[.map (some bx)] ∧ Blk wr gy 117 #[.map (some by')] ∧ TreeOk wr bx zs ∧ TreeOk wr by' ds ∧
    ((e = 0 ∧ T = symsR (bitsOf bs) most zs ds k out p ∧ 8 * bs.length + 1 ≤ k + p) ∨ (∃ b, e = errOf b ∧ T = .bad b))
def RCodE (base s : Nat) (bs out : List Int) (p most : Nat) (w : World) (k : Nat) (wr : World) : Prop := RefOk wr base s bs p out (most : Int) 4 ∧ StStep w wr base s s

set_option maxHeartbeats 1600000 in
set_option maxRecDepth 100000 in
theorem rcoded_any (base s : Nat) (bs zs ds : List Int) (p : Nat) (out : List Int) (most : Nat) (A B : Option Addr) (n m ca cb : Nat) (w : World) (h : RefOk w base s bs p out (most : Int) 0) (hz : RdI .i64 w A n zs) (hd : RdI .i64 w B m ds) (hn : n ≤ 1000) (hm2 : m ≤ 1000)
    (hB : Bytes bs) (hl : bs.length ≤ 1000000000) (hm : most ≤ 65536) (ho : out.length ≤ most) :
    Calls Tryd.prog 36 #[.pointer (some ⟨s, 0, none⟩), .slice A n ca, .slice B m cb] w (RVoid base s bs most (codedR (bitsOf bs) most zs ds out p) w) := by
  have H := Lib.hid h
  have HZ := Lib.hid hz
  have HDs := Lib.hid hd
  have HBy := Lib.hid hB
  have h3 := h.2.2.1
  have hp := h.1
  clear h hz hd hB
  go_enter Tryd.func36, Tryd.ntmps36
  go_wp2_with fail
  refine (made_any zs A n ca w HZ.out hn).mono ?_
  rintro ev w1 ⟨bx, rfl, hbx, htx, hb1⟩
  have B1 := Lib.hid hb1
  have TX := Lib.hid htx
  clear htx hb1
  go_wp2_with fail
  obtain ⟨w2, hw2⟩ : ∃ w2, w2 = w1.alloc (.cells #[.map (some bx)] 117) := ⟨_, rfl⟩
  rw [← hw2]
  have L2 := Lib.hid (show Below w1.heap.size w1 w2 by rw [hw2]; exact (Below.refl _ _).alloc (Nat.le_refl _) _)
  have KX2 := Lib.hid (show Blk w2 w1.heap.size 117 #[.map (some bx)] by rw [hw2]; exact Blk.made _ _ _)
  clear hw2
  have B2 := Lib.hid (below_chain B1.out L2.out)
  refine (made_any ds B m cb w2 (HDs.out.below B2.out) hm2).mono ?_
  rintro ev w3 ⟨by', rfl, hby, hty, hb3⟩
  have B3 := Lib.hid hb3
  have TY := Lib.hid hty
  clear hty hb3
  have hszs : w1.heap.size < w2.heap.size := KX2.out.lt
  obtain ⟨w4, hw4⟩ : ∃ w4, w4 = w3.alloc (.cells #[.map (some by')] 117) := ⟨_, rfl⟩
  have L4 := Lib.hid (show Below w3.heap.size w3 w4 by rw [hw4]; exact (Below.refl _ _).alloc (Nat.le_refl _) _)
  have KY4 := Lib.hid (show Blk w4 w3.heap.size 117 #[.map (some by')] by rw [hw4]; exact Blk.made _ _ _)
  have B24 := Lib.hid (below_chain B3.out L4.out)
  have KX4 := Lib.hid (KX2.out.below B24.out KX2.out.lt)
  have B4 := Lib.hid (below_chain B2.out B24.out)
  have H4 := Lib.hid (H.out.below B4.out)
  have S4 := Lib.hid (StStep.of_below (s := s) (r := s) B4.out h3)
  have TX4 := Lib.hid (show countsOk zs = true → TreeOk w4 bx zs from fun hh => ((TX.out hh).below L2.out).below B24.out)
  have TY4 := Lib.hid (show countsOk ds = true → TreeOk w4 by' ds from fun hh => (TY.out hh).below L4.out)
  have HW4 := Lib.hid hw4
  clear hw4 TX TY KX2 L2 L4 B24 B3 B1 H
  cases hx0 : countsOk zs
  · have HT := Lib.hid (show codedR (bitsOf bs) most zs ds out p = .bad false by unfold codedR; rw [if_neg (by rw [hx0]; simp)])
    clear hx0
    cases hy0 : countsOk ds
    all_goals
      clear hy0
      go_wp2_with fail
      rw [← HW4.out]
      go_wp2_with fail
      refine (rfail_any base s bs p out (most : Int) 0 4 w4 H4.out).mono ?_
      rintro ev w5 ⟨rfl, h5', s5, _⟩
      rw [if_pos rfl] at h5'
      have H5 := Lib.hid h5'
      have S5 := Lib.hid (S4.out.trans s5)
      clear h5' s5
      go_wp2
      go_loopg [] 0 (RCodE base s bs out p most w)
      case atStart => exact ⟨H5.out, S5.out⟩
      case round =>
        clear H5 S5
        have HR := Lib.hid hrel
        have c4 := hrel.1.c4
        clear hrel
        go_wp2
        go_end0
        exact ⟨p, out, 4, rfl, HR.out.1, HR.out.2, ho, by rw [HT.out]; rfl⟩
  · cases hy0 : countsOk ds
    · have HT := Lib.hid (show codedR (bitsOf bs) most zs ds out p = .bad false by unfold codedR; rw [if_neg (by rw [hy0]; simp)])
      clear hy0 hx0
      go_wp2_with fail
      rw [← HW4.out]
      go_wp2_with fail
      refine (rfail_any base s bs p out (most : Int) 0 4 w4 H4.out).mono ?_
      rintro ev w5 ⟨rfl, h5', s5, _⟩
      rw [if_pos rfl] at h5'
      have H5 := Lib.hid h5'
      have S5 := Lib.hid (S4.out.trans s5)
      clear h5' s5
      go_wp2
      go_loopg [] 0 (RCodE base s bs out p most w)
      case atStart => exact ⟨H5.out, S5.out⟩
      case round =>
        clear H5 S5
        have HR := Lib.hid hrel
        have c4 := hrel.1.c4
        clear hrel
        go_wp2
        go_end0
        exact ⟨p, out, 4, rfl, HR.out.1, HR.out.2, ho, by rw [HT.out]; rfl⟩
    · have HT := Lib.hid (show codedR (bitsOf bs) most zs ds out p = symsR (bitsOf bs) most zs ds (8 * bs.length + 1) out p by unfold codedR; rw [if_pos ⟨hx0, hy0⟩, bitsOf_len])
      have DX := Lib.hid (TX4.out hx0)
      have DY := Lib.hid (TY4.out hy0)
      have HX0 := Lib.hid hx0
      have HY0 := Lib.hid hy0
      have hz288 := len_of hx0
      clear TX4 TY4 hx0 hy0
      generalize codedR (bitsOf bs) most zs ds out p = T at *
      go_wp2
      rw [← HW4.out]
      clear HW4
      go_loopg [] (8 * bs.length + 1) (RCod base s w1.heap.size w3.heap.size bx by' bs zs ds most T w)
      case atStart => exact ⟨out, p, 0, H4.out, S4.out, ho, KX4.out, KY4.out, DX.out, DY.out, .inl ⟨rfl, HT.out, by omega⟩⟩
      case round =>
        clear H4 S4 KX4 KY4 DX DY HT B4
        obtain ⟨o1, p1, e1, hs1, st1, ho1, kx1, ky1, dx1, dy1, hT⟩ := hrel
        have H1 := Lib.hid hs1
        have S1 := Lib.hid st1
        have KX1 := Lib.hid kx1
        have KY1 := Lib.hid ky1
        have DX1 := Lib.hid dx1
        have DY1 := Lib.hid dy1
        have HT := Lib.hid hT
        have p1l := hs1.1
        have c4 := hs1.c4
        have kxc := kx1.cell (i := 0) rfl
        clear hs1 st1 kx1 ky1 dx1 dy1 hT
        rcases HT.out with ⟨rfl, hT, hk⟩ | ⟨b, rfl, hT⟩
        · obtain ⟨f, rfl⟩ : ∃ f, gk = f + 1 := ⟨gk - 1, by omega⟩
          have HT' := Lib.hid (show T = (symR (bitsOf bs) zs p1).bind fun s p =>
            if s = 256 then .ok o1 p else
            if 256 < s then (matchR (bitsOf bs) most ds o1 (s - 257) p).bind fun out p => symsR (bitsOf bs) most zs ds f out p else
            if most < o1.length + 1 then .bad true else symsR (bitsOf bs) most zs ds f (o1 ++ [(s : Int)]) p from hT)
          clear hT HT
          go_wp2_with fail
          refine (rsymbol_any base s bx bs zs p1 o1 (most : Int) 0 wr H1.out DX1.out HX0.out HBy.out hl).mono ?_
          rintro ev w2 ⟨v, p2, e2, rfl, hv, hs2, st2, tk2⟩
          have hv288 : v ≤ 288 := by omega
          have H2 := Lib.hid hs2
          have S2 := Lib.hid (S1.out.trans st2)
          have KX2 := Lib.hid (H1.out.keepBlk st2 KX1.out (by decide) (by decide))
          have KY2 := Lib.hid (H1.out.keepBlk st2 KY1.out (by decide) (by decide))
          have DX2 := Lib.hid (DX1.out.step st2 H1.out.sblk)
          have DY2 := Lib.hid (DY1.out.step st2 H1.out.sblk)
          have p2l := hs2.1
          have h32 := hs2.2.2.1
          have c4' := hs2.c4
          have kyc := KY2.out.cell (i := 0) rfl
          have TK := Lib.hid (took_or (tk2.resolve_right (fun h => h.1 rfl)).2)
          clear hs2 st2 tk2 H1 S1 KX1 KY1 DX1 DY1 c4 kxc
          rcases TK.out with ⟨hsy, rfl⟩ | ⟨b, hsy, _, he2⟩
          · have hpp : p1 < p2 := (symR_lt hsy).1
            rw [hsy] at HT'
            simp only [Res.bind] at HT'
            clear TK hsy
            by_cases h256 : v = 256
            · subst h256
              rw [if_pos rfl] at HT'
              go_wp2
              go_end0
              exact ⟨p2, o1, 0, rfl, H2.out, S2.out, ho1, by rw [HT'.out]; exact ⟨rfl, rfl, rfl⟩⟩
            · rw [if_neg h256] at HT'
              have h256I : ((v : Int) == 256) = false := by simp; omega
              by_cases hgt : 256 < v
              · rw [if_pos hgt] at HT'
                have hgtI : (256 : Int) < (v : Int) := by omega
                go_wp2_with fail
                refine (rmatch_any base s by' bs ds p2 o1 most v w2 H2.out DY2.out HY0.out HBy.out hl hm ho1 (by omega) (by omega)).mono ?_
                rintro ev w5 ⟨p3, o3, e3, rfl, hs3, st3, ho3, ag3⟩
                have H3 := Lib.hid hs3
                have S3 := Lib.hid (S2.out.trans st3)
                have KX3 := Lib.hid (H2.out.keepBlk st3 KX2.out (by decide) (by decide))
                have KY3 := Lib.hid (H2.out.keepBlk st3 KY2.out (by decide) (by decide))
                have DX3 := Lib.hid (DX2.out.step st3 H2.out.sblk)
                have DY3 := Lib.hid (DY2.out.step st3 H2.out.sblk)
                have HR := Lib.hid (show (e3 = 0 ∧ T = symsR (bitsOf bs) most zs ds f o3 p3 ∧ 8 * bs.length + 1 ≤ f + p3) ∨ (∃ b, e3 = errOf b ∧ T = .bad b) by
                  have h1 := HT'.out
                  rcases hm1 : matchR (bitsOf bs) most ds o1 (v - 257) p2 with ⟨a, q⟩ | b
                  · rw [hm1] at h1 ag3
                    obtain ⟨rfl, rfl, rfl⟩ := ag3
                    have := matchR_mn hm1
                    exact .inl ⟨rfl, h1, by omega⟩
                  · rw [hm1] at h1 ag3
                    exact .inr ⟨b, ag3, h1⟩)
                clear hs3 st3 ag3 H2 S2 KX2 KY2 DX2 DY2 HT' c4' kyc
                go_wp2
                go_roundg f
                case measure => omega
                case rel => exact ⟨o3, p3, e3, H3.out, S3.out, ho3, KX3.out, KY3.out, DX3.out, DY3.out, HR.out⟩
              · rw [if_neg hgt] at HT'
                have hgtI : ¬ (256 : Int) < (v : Int) := by omega
                obtain ⟨Ax, cx, Ay, cy, bz, oz, lz⟩ := H2.out.parts
                have x2 := bz.cell (i := 2) (v := .slice Ay o1.length cy) rfl
                have x3 := bz.cell (i := 3) (v := .int .i64 (most : Int)) rfl
                have BZ := Lib.hid bz.drew
                have OZ := Lib.hid oz.drew
                have x2' : w2.drew.cell? ⟨s, 2, none⟩ = some (.slice Ay o1.length cy) := x2
                have hdr := (Below.refl w2.heap.size w2).drew
                have st23 := StStep.of_below (s := s) (r := s) hdr h32
                have H3 := Lib.hid (H2.out.below hdr)
                have S3 := Lib.hid (S2.out.trans st23)
                have KX3 := Lib.hid (H2.out.keepBlk st23 KX2.out (by decide) (by decide))
                have KY3 := Lib.hid (H2.out.keepBlk st23 KY2.out (by decide) (by decide))
                have DX3 := Lib.hid (DX2.out.step st23 H2.out.sblk)
                have DY3 := Lib.hid (DY2.out.step st23 H2.out.sblk)
                clear bz oz lz hdr st23 H2 S2 KX2 KY2 DX2 DY2 kyc
                by_cases hlong : most < o1.length + 1
                · rw [if_pos hlong] at HT'
                  have dl : decide ((most : Int) ≤ (o1.length : Int)) = true := by simp; omega
                  have dl2 : decide (most ≤ o1.length) = true := by simp; omega
                  go_wp2
                  refine wp_region_qs (fun _ w' => w'.cell? ⟨s, 2, none⟩ = some (.slice Ay o1.length cy) ∧ w'.cell? ⟨s, 3, none⟩ = some (.int .i64 (most : Int))) [(0, some 0), (1, some 0), (2, some 0), (3, some 0), (4, some 0), (5, some 0), (6, some 0), (7, some 0), (8, some 0), (9, some 0)] (by kernel_rfl) (by kernel_rfl) (by kernel_rfl) (by kernel_rfl) (by kernel_rfl) (fun _ _ _ _ _ h => h) ⟨x2, x3⟩ ?_
                  simp only [List.map_cons, List.map_nil, List.getD_cons_succ, List.getD_cons_zero]
                  (repeat (first | (refine qs_now (v := ?_) (by rfl) ?_ ?_; rotate_left 1; (· (intro w' hS; go_simp; (try (simp only [↓IntWalk.iteOmega]; go_simp)); (try simp (disch := omega) only [IntWalk.i64_in]); try with_reducible rfl)); simp only [Act.put, List.setIfInBounds_toArray, List.set_cons_zero, List.set_cons_succ]) | (refine qs_run (v := ?_) (by rfl) ?_ ?_; rotate_left 1; (· (intro j w' hS; go_simp; (try (simp only [↓IntWalk.iteOmega]; go_simp)); (try simp (disch := omega) only [IntWalk.i64_in]); try with_reducible rfl)); simp only [Act.put, List.setIfInBounds_toArray, List.set_cons_zero, List.set_cons_succ]) | (refine qs_skip (by rfl) ?_; simp only [Act.put, List.setIfInBounds_toArray, List.set_cons_zero, List.set_cons_succ])))
                  refine qs_nil ?_
                  go_wp2_with fail
                  refine (rfail_any base s bs p2 o1 (most : Int) 0 3 w2.drew H3.out).mono ?_
                  rintro ev w5 ⟨rfl, h5', s5, _⟩
                  rw [if_pos rfl] at h5'
                  have H5 := Lib.hid h5'
                  have S5 := Lib.hid (S3.out.trans s5)
                  clear h5' s5
                  go_wp2
                  go_end0
                  exact ⟨p2, o1, 3, rfl, H5.out, S5.out, ho1, by rw [HT'.out]; rfl⟩
                · rw [if_neg hlong] at HT'
                  have dl : decide ((most : Int) ≤ (o1.length : Int)) = false := by simp; omega
                  have dl2 : decide (most ≤ o1.length) = false := by simp; omega
                  have hv256 : v < 256 := by omega
                  have hvI : (v : Int) < 256 := by omega
                  have hxb : 0 ≤ (v : Int) ∧ (v : Int) < 256 := by omega
                  go_wp2
                  refine wp_region_qs (fun _ w' => w'.cell? ⟨s, 2, none⟩ = some (.slice Ay o1.length cy) ∧ w'.cell? ⟨s, 3, none⟩ = some (.int .i64 (most : Int))) [(0, some 0), (1, some 0), (2, some 0), (3, some 0), (4, some 0), (5, some 0), (6, some 0), (7, some 0), (8, some 0), (9, some 0)] (by kernel_rfl) (by kernel_rfl) (by kernel_rfl) (by kernel_rfl) (by kernel_rfl) (fun _ _ _ _ _ h => h) ⟨x2, x3⟩ ?_
                  simp only [List.map_cons, List.map_nil, List.getD_cons_succ, List.getD_cons_zero]
                  (repeat (first | (refine qs_now (v := ?_) (by rfl) ?_ ?_; rotate_left 1; (· (intro w' hS; go_simp; (try (simp only [↓IntWalk.iteOmega]; go_simp)); (try simp (disch := omega) only [IntWalk.i64_in]); try with_reducible rfl)); simp only [Act.put, List.setIfInBounds_toArray, List.set_cons_zero, List.set_cons_succ]) | (refine qs_run (v := ?_) (by rfl) ?_ ?_; rotate_left 1; (· (intro j w' hS; go_simp; (try (simp only [↓IntWalk.iteOmega]; go_simp)); (try simp (disch := omega) only [IntWalk.i64_in]); try with_reducible rfl)); simp only [Act.put, List.setIfInBounds_toArray, List.set_cons_zero, List.set_cons_succ]) | (refine qs_skip (by rfl) ?_; simp only [Act.put, List.setIfInBounds_toArray, List.set_cons_zero, List.set_cons_succ])))
                  refine qs_nil ?_
                  go_wp2_with (refine app_src rfl (.tmp 68) (.tmp 71) 22 rfl 0 5 _ 1 1 Tryd.underlying22 infoByte rfl (by omega) _ o1.length _ rfl (OZ.out.alloc _) _ 1 [Value.int .u8 (v : Int)] rfl (src_u8 _ _ _) (by simp [Value.oneCell']) (by omega) (by omega) (Nat.zero_le _) ?_; intro v9 w9 ho9 hg9 hor9; obtain ⟨A9, c9, hv9, _⟩ := own_slice ho9; subst hv9; have hP := ref_push (v9 := .slice A9 (o1.length + 1) c9) (x := (v : Int)) H3.out BZ.out ((Below.refl _ _).alloc (Nat.le_refl _) _) hg9 hor9 (by simpa using ho9) hxb; have f9 := hP.2.2.free 2; have d9 := hP.2.2.cell (i := 2) rfl; have HP := Lib.hid hP; clear ho9 hg9 hor9 hP)
                  go_roundg f
                  case measure => omega
                  case rel =>
                    have hst := HP.out.2.1
                    exact ⟨o1 ++ [(v : Int)], p2, 0, HP.out.1, S3.out.trans hst, by simp; omega, H3.out.keepBlk hst KX3.out (by decide) (by decide), H3.out.keepBlk hst KY3.out (by decide) (by decide), DX3.out.step hst H3.out.sblk, DY3.out.step hst H3.out.sblk, .inl ⟨rfl, HT'.out, by omega⟩⟩
          · rw [if_pos rfl] at he2
            rw [hsy] at HT'
            simp only [Res.bind] at HT'
            have he := errOf_ne b
            have he' : (errOf b != 0) = true := by simpa using he
            generalize hE : errOf b = E at *
            subst he2
            have HE := Lib.hid hE
            clear hE TK hsy he
            go_wp2
            go_end0
            exact ⟨p2, o1, e2, rfl, H2.out, S2.out, ho1, by rw [HT'.out]; exact HE.out.symm⟩
        · have hT' := Lib.hid hT
          have he := errOf_ne b
          have he' : (errOf b == 0) = false := by simpa using he
          clear hT HT
          generalize hE : errOf b = E at *
          have HE := Lib.hid hE
          clear hE
          go_wp2
          go_end0
          exact ⟨p1, o1, E, rfl, H1.out, S1.out, ho1, by rw [hT'.out]; exact HE.out.symm⟩
end Go.Proofs.YtlhaehefhhcgaaaDoor
namespace Go.Proofs.YtlhaehefhhcgaaaDoor
open Go.RowKit
set_option linter.unusedVariables false

theorem fx_at : ∀ i, i < 288 → fixedL.getD i 0 = (if i < 144 then 8 else if i < 256 then 9 else if i < 280 then 7 else 8) := by decide +kernel
theorem fx_len288 : fixedL.length = 288 := by decide +kernel
theorem fx_take (i : Nat) (h : i < 288) : fixedL.take (i + 1) = fixedL.take i ++ [fixedL.getD i 0] := take_snoc _ _ (by rw [fx_len288]; exact h)
def RFx (w : World) (k : Nat) (sv iv : Value) (wr : World) : Prop :=
  ∃ i A c, iv = .int .i64 ((i : Nat) : Int) ∧ i + k = 288 ∧ sv = .slice A i c ∧ wr.ownsRow w.heap.size 3 1 sv i ((fixedL.take i).map (Value.int .i64)) ∧ Below w.heap.size w wr
def RFd (w : World) (sv0 : Value) (g0 k : Nat) (sv iv : Value) (wr : World) : Prop :=
  ∃ j A c, iv = .int .i64 ((j : Nat) : Int) ∧ sv = .slice A j c ∧ j + k = 32 ∧ wr.ownsRow w.heap.size 3 1 sv j ((List.replicate j (5 : Int)).map (Value.int .i64)) ∧ Below w.heap.size w wr ∧ wr.ownsRow w.heap.size 3 1 sv0 288 (fixedL.map (Value.int .i64)) ∧ sv.ownBlock ≠ some g0 ∧ g0 < wr.heap.size
def FixedOwn (w : World) (ev : Ending) (w' : World) : Prop :=
  ∃ A B ca cb, ev = .returned (.tuple #[.slice A 288 ca, .slice B 32 cb]) ∧ w'.ownsRow w.heap.size 3 1 (.slice A 288 ca) 288 (fixedL.map (Value.int .i64)) ∧ w'.ownsRow w.heap.size 3 1 (.slice B 32 cb) 32 (fixedD.map (Value.int .i64)) ∧ Below w.heap.size w w'
set_option maxHeartbeats 1600000 in
theorem rfixed_own (w : World) : Calls Tryd.prog 21 #[] w (FixedOwn w) := by
  go_enter Tryd.func21, Tryd.ntmps21
  go_wp2
  go_loopg [2, 4] 288 (RFx w)
  case atStart => exact ⟨0, none, 0, rfl, by omega, rfl, ⟨rfl, .inl ⟨rfl, rfl⟩⟩, Below.refl _ _⟩
  case round =>
    obtain ⟨i, A, c, rfl, hi, rfl, ho, hb⟩ := hrel
    have HO := Lib.hid ho
    have HB := Lib.hid hb
    clear ho hb
    by_cases hlt : i < 288
    · have hltI : (i : Int) < 288 := by omega
      have HTk := Lib.hid (fx_take i hlt)
      have HAt := Lib.hid (fx_at i hlt)
      by_cases h1 : i < 144
      · have h1I : ¬ (144 : Int) ≤ (i : Int) := by omega
        have d1 : decide ((144 : Int) ≤ (i : Int)) = false := by simp; omega
        have d2 : decide ((256 : Int) ≤ (i : Int)) = false := by simp; omega
        rw [if_pos h1] at HAt
        go_wp2_with (refine app_int rfl (.tmp 23) (.tmp 25) rfl w.heap.size _ i _ wr.heap.size _ 3 rfl (HO.out.alloc _) rfl (Blk.made _ _ _) (by omega) (by have := HB.out.size; simp; omega) ?_; intro g6 cap6 w6 ho6 hg6 hor6 hlt6; have HO6 := Lib.hid ho6; have HG6 := Lib.hid hg6; clear ho6 hg6 hor6 hlt6)
        go_roundg (gk - 1)
        case rel =>
          refine ⟨i + 1, _, _, by go_num, by omega, rfl, ?_, ?_⟩
          · rw [HTk.out, HAt.out]; exact HO6.out
          · exact (HB.out.alloc HB.out.size _).grown HG6.out (by have := HB.out.size; simp; omega) (fun k hk => own_base HO.out hk)
        case measure => omega
      · have d1 : decide ((144 : Int) ≤ (i : Int)) = true := by simp; omega
        rw [if_neg h1] at HAt
        by_cases h2 : i < 256
        · have d2 : decide ((i : Int) < 256) = true := by simp; omega
          have d3 : decide ((256 : Int) ≤ (i : Int)) = false := by simp; omega
          rw [if_pos h2] at HAt
          go_wp2_with (refine app_int rfl (.tmp 23) (.tmp 25) rfl w.heap.size _ i _ wr.heap.size _ 3 rfl (HO.out.alloc _) rfl (Blk.made _ _ _) (by omega) (by have := HB.out.size; simp; omega) ?_; intro g6 cap6 w6 ho6 hg6 hor6 hlt6; have HO6 := Lib.hid ho6; have HG6 := Lib.hid hg6; clear ho6 hg6 hor6 hlt6)
          go_roundg (gk - 1)
          case rel =>
            refine ⟨i + 1, _, _, by go_num, by omega, rfl, ?_, ?_⟩
            · rw [HTk.out, HAt.out]; exact HO6.out
            · exact (HB.out.alloc HB.out.size _).grown HG6.out (by have := HB.out.size; simp; omega) (fun k hk => own_base HO.out hk)
          case measure => omega
        · have d2 : decide ((i : Int) < 256) = false := by simp; omega
          have d3 : decide ((256 : Int) ≤ (i : Int)) = true := by simp; omega
          rw [if_neg h2] at HAt
          by_cases h3 : i < 280
          · have d4 : decide ((i : Int) < 280) = true := by simp; omega
            rw [if_pos h3] at HAt
            go_wp2_with (refine app_int rfl (.tmp 23) (.tmp 25) rfl w.heap.size _ i _ wr.heap.size _ 3 rfl (HO.out.alloc _) rfl (Blk.made _ _ _) (by omega) (by have := HB.out.size; simp; omega) ?_; intro g6 cap6 w6 ho6 hg6 hor6 hlt6; have HO6 := Lib.hid ho6; have HG6 := Lib.hid hg6; clear ho6 hg6 hor6 hlt6)
            go_roundg (gk - 1)
            case rel =>
              refine ⟨i + 1, _, _, by go_num, by omega, rfl, ?_, ?_⟩
              · rw [HTk.out, HAt.out]; exact HO6.out
              · exact (HB.out.alloc HB.out.size _).grown HG6.out (by have := HB.out.size; simp; omega) (fun k hk => own_base HO.out hk)
            case measure => omega
          · have d4 : decide ((i : Int) < 280) = false := by simp; omega
            rw [if_neg h3] at HAt
            go_wp2_with (refine app_int rfl (.tmp 23) (.tmp 25) rfl w.heap.size _ i _ wr.heap.size _ 3 rfl (HO.out.alloc _) rfl (Blk.made _ _ _) (by omega) (by have := HB.out.size; simp; omega) ?_; intro g6 cap6 w6 ho6 hg6 hor6 hlt6; have HO6 := Lib.hid ho6; have HG6 := Lib.hid hg6; clear ho6 hg6 hor6 hlt6)
            go_roundg (gk - 1)
            case rel =>
              refine ⟨i + 1, _, _, by go_num, by omega, rfl, ?_, ?_⟩
              · rw [HTk.out, HAt.out]; exact HO6.out
              · exact (HB.out.alloc HB.out.size _).grown HG6.out (by have := HB.out.size; simp; omega) (fun k hk => own_base HO.out hk)
            case measure => omega
    · obtain rfl : i = 288 := by omega
      rw [List.take_of_length_le (by rw [fx_len288]; omega)] at HO
      obtain ⟨g0, cap0, hv0, _, hlt0⟩ := HO.out.form (by omega)
      injection hv0 with hv0 _ hv1
      subst hv0 hv1
      go_wp2
      go_loopg [3, 6] 32 (RFd w (.slice (some ⟨g0, 0, none⟩) 288 c) g0)
      case atStart => exact ⟨0, none, 0, rfl, rfl, by omega, ⟨rfl, .inl ⟨rfl, rfl⟩⟩, HB.out, HO.out, by simp [Value.ownBlock], hlt0⟩
      case round =>
        clear HO HB
        obtain ⟨j, A1, c1, rfl, rfl, hj, ho1, hb1, hx1, hx2, hx3⟩ := hrel
        have HO := Lib.hid ho1
        have HB := Lib.hid hb1
        have HX := Lib.hid hx1
        have HX2 := Lib.hid hx2
        clear ho1 hb1 hx1 hx2
        by_cases hjl : j < 32
        · have hltI : (j : Int) < 32 := by omega
          go_wp2_with (refine app_int rfl (.tmp 31) (.tmp 32) rfl w.heap.size _ j _ wr.heap.size _ 3 rfl (HO.out.alloc _) rfl (Blk.made _ _ _) (by omega) (by have := HB.out.size; simp; omega) ?_; intro g6 cap6 w6 ho6 hg6 hor6 hlt6; have HO6 := Lib.hid ho6; have HG6 := Lib.hid hg6; have HR6 := Lib.hid hor6; clear ho6 hg6 hor6 hlt6)
          go_roundg (gk - 1)
          case rel =>
            refine ⟨j + 1, _, _, by go_num, rfl, by omega, ?_, ?_, ?_, ?_, ?_⟩
            · have := HO6.out
              rw [← List.replicate_succ'] at this
              exact this
            · exact (HB.out.alloc HB.out.size _).grown HG6.out (by have := HB.out.size; simp; omega) (fun k hk => own_base HO.out hk)
            · exact (HX.out.alloc _).kept HG6.out (.inr (fun e => HX2.out e.symm))
            · intro he
              rcases HR6.out with e | e
              · exact HX2.out (e.trans (by simpa [Value.ownBlock] using he))
              · simp [Value.ownBlock] at he e; omega
            · have := HG6.out.size; simp at this; omega
          case measure => omega
        · obtain rfl : j = 32 := by omega
          go_wp2
          go_ret2
          exact ⟨_, _, _, _, rfl, HX.out, HO.out, HB.out⟩
theorem rfixed_any (w : World) : Calls Tryd.prog 21 #[] w (FixedPost w) := by
  refine (rfixed_own w).mono ?_
  rintro ev w1 ⟨A, B, ca, cb, rfl, h1, h2, h3⟩
  exact ⟨A, B, ca, cb, rfl, RdI.of_own h1, RdI.of_own h2, h3⟩
end Go.Proofs.YtlhaehefhhcgaaaDoor
