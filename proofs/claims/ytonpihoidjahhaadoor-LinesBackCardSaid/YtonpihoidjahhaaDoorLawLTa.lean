/-
  LinesTales, walked.
-/
import Derived.Test.YtonpihoidjahhaaDoorLawLT
namespace Go.Proofs.YtonpihoidjahhaaDoor
open Go.RowKit
set_option linter.unusedVariables false
set_option linter.unusedSimpArgs false

def TaleS.nums (x : TaleS) : List Int := [x.st.v0, x.st.v1, x.st.v2, x.st.v3, x.st.v4, x.st.v5, x.st.v6, x.st.v7, x.st.v8]
def tellT (x : TaleS) : List UInt8 := tellL x.e x.sn x.nums x.st.sl x.bs
def TaleOk (x : TaleS) : Prop := By x.bs ∧ (∀ z ∈ x.st.sl, i64b z) ∧ i64b x.e ∧ i64b x.sn ∧ (∀ z ∈ x.nums, i64b z)
theorem tellT_iff {x y : TaleS} (hx : TaleOk x) (hy : TaleOk y) : tellT x = tellT y ↔ x = y := by
  constructor
  · intro h
    obtain ⟨a1, a2, a3, a4, a5⟩ := hx
    obtain ⟨b1, b2, b3, b4, b5⟩ := hy
    obtain ⟨h1, h2, h3, h4, h5⟩ := tell_inj (nums := x.nums) (nums' := y.nums) a3 b3 a4 b4 rfl (fun n hn => (List.mem_append.1 hn).elim (a5 n) (a2 n)) (fun n hn => (List.mem_append.1 hn).elim (b5 n) (b2 n)) a1 b1 h
    obtain ⟨e, sn, bs, st⟩ := x
    obtain ⟨e', sn', bs', st'⟩ := y
    obtain ⟨v0, v1, v2, v3, v4, v5, v6, v7, v8, sl⟩ := st
    obtain ⟨u0, u1, u2, u3, u4, u5, u6, u7, u8, sl'⟩ := st'
    simp only [TaleS.nums, List.cons.injEq, and_true] at h1 h2 h3 h4 h5
    simp_all
  · rintro rfl
    rfl
theorem str_eq (a b : List UInt8) : ((⟨a.toArray⟩ : ByteArray).toList == (⟨b.toArray⟩ : ByteArray).toList) = decide (a = b) := by
  rw [ba_list, ba_list]
  exact beq_dec a b
theorem tales_same {x y : TaleS} (hx : TaleOk x) (hy : TaleOk y) : decide (tellT x = tellT y) = eqTale x y := by
  rw [Bool.eq_iff_iff, decide_eq_true_eq, eqTale_iff, tellT_iff hx hy]
theorem infoTaleN (x : TaleS) (B S : Value) : (Tryd.prog.info? 30).map (·.size) = some (x.vs B S).toList.length := by rw [infoTale]; rfl
theorem tell_len {x : TaleS} (h : TaleOk x) : (tellT x).length ≤ 2000 + 22 * x.st.sl.length + 2 * x.bs.length := by
  obtain ⟨_, h2, h3, h4, h5⟩ := h
  have r1 := rowL_len (word := errW) (ns := [x.e]) (fun z hz => by rw [List.mem_singleton] at hz; subst hz; exact h3)
  have r2 := rowL_len (word := 32 :: snapW) (ns := [x.sn]) (fun z hz => by rw [List.mem_singleton] at hz; subst hz; exact h4)
  have r3 := rowL_len (word := 32 :: statW) (ns := x.nums ++ x.st.sl) (fun z hz => (List.mem_append.1 hz).elim (h5 z) (h2 z))
  have e1 : errW.length = 5 := rfl
  have e2 : (32 :: snapW).length = 5 := rfl
  have e3 : (32 :: statW).length = 5 := rfl
  have e4 : okW.length = 2 := rfl
  have e5 : x.nums.length = 9 := rfl
  have e6 : bytesW.length = 5 := rfl
  rw [List.length_append] at r3
  simp only [List.length_cons, List.length_nil] at r1 r2
  have k1 : (if x.e = 0 then okW else rowL errW [x.e]).length ≤ 100 := by
    split
    · omega
    · omega
  have e7 : snapW.length = 4 := rfl
  have k2 : (if x.sn = 0 then ([] : List UInt8) else rowL (32 :: snapW) [x.sn]).length ≤ 100 := by
    split
    · simp
    · omega
  have k3 : (statL x.nums x.st.sl).length ≤ 300 + 22 * x.st.sl.length := by
    unfold statL
    split
    · omega
    · simp
  have k4 : (if x.bs = [] then ([] : List UInt8) else 32 :: bytesW ++ 32 :: hexL x.bs).length ≤ 100 + 2 * x.bs.length := by
    split
    · simp
    · simp only [List.length_append, List.length_cons, hexL_len]
      omega
  unfold tellT tellL
  simp only [List.length_append] at k4 ⊢
  omega
def TaI (n : Nat) (w : World) (k : Nat) (iv : Value) (wr : World) : Prop := ∃ i : Nat, iv = .int .i64 (i : Int) ∧ i + k = n ∧ wr = w
set_option maxHeartbeats 1600000 in
theorem tales_any (x y : TaleS) (vx vy : Value) (w : World) (hx : TaleIn w vx x) (hy : TaleIn w vy y) (ht : LnT w) :
    Calls Tryd.prog 4 #[vx, vy] w fun e w' => e = .returned (.bool true) ∧ Below w.heap.size w w' := by
  obtain ⟨⟨A, c, A', c', rfl, ha, hb⟩, hby, hsl, he, hsn, hnum, hbn, hsn'⟩ := hx
  obtain ⟨⟨B, d, B', d', rfl, hc, hd⟩, hby2, hsl2, he2, hsn2, hnum2, hbn2, hsn2'⟩ := hy
  have HT := Lib.hid ht
  have HA := Lib.hid ha
  have HB := Lib.hid hb
  have HC := Lib.hid hc
  have HD := Lib.hid hd
  have OX := Lib.hid (show TaleOk x from ⟨hby, hsl, he, hsn, hnum⟩)
  have OY := Lib.hid (show TaleOk y from ⟨hby2, hsl2, he2, hsn2, hnum2⟩)
  clear ht ha hb hc hd hby hsl he hsn hnum hby2 hsl2 he2 hsn2 hnum2
  unfold TaleS.vs taleV
  go_enter Tryd.func4, Tryd.ntmps4
  go_wp2_with fail
  obtain ⟨w1, hw1⟩ : ∃ w1, w1 = (w.alloc (Obj.cells (x.vs (.slice A x.bs.length c) (.slice A' x.st.sl.length c')) 30)).alloc (Obj.cells (y.vs (.slice B y.bs.length d) (.slice B' y.st.sl.length d')) 30) := ⟨_, rfl⟩
  have K1 := Lib.hid (show Blk w1 w.heap.size 30 (x.vs (.slice A x.bs.length c) (.slice A' x.st.sl.length c')) by rw [hw1]; exact (Blk.made _ _ _).alloc _)
  have J1 := Lib.hid (show Blk w1 (w.heap.size + 1) 30 (y.vs (.slice B y.bs.length d) (.slice B' y.st.sl.length d')) by rw [hw1]; exact Blk.made_at _ _ _ (by simp))
  have L1 := Lib.hid (show Below w.heap.size w w1 by rw [hw1]; exact (((Below.refl _ _).alloc (Nat.le_refl _) _).alloc (by simp) _))
  unfold TaleS.vs taleV at hw1
  rw [← hw1]
  clear hw1
  refine (awake_any w1 (HT.out.below L1.out)).mono ?_
  rintro ev w2 ⟨rfl, hb2⟩
  have K2 := Lib.hid (K1.out.below hb2 K1.out.lt)
  have J2 := Lib.hid (J1.out.below hb2 J1.out.lt)
  have L2 := Lib.hid (below_chain L1.out hb2)
  clear hb2 K1 J1 L1
  have K2u := K2
  have J2u := J2
  unfold TaleS.vs taleV at K2u J2u
  have p1 := K2u.out.cell (i := 1) rfl
  have p11 := K2u.out.cell (i := 11) rfl
  have q1 := J2u.out.cell (i := 1) rfl
  have q11 := J2u.out.cell (i := 11) rfl
  by_cases hm : x.bs.length + y.bs.length + x.st.sl.length + y.st.sl.length ≤ 2000
  · have hmI : ¬ (2000 : Int) < (x.bs.length : Int) + (y.bs.length : Int) + (x.st.sl.length : Int) + (y.st.sl.length : Int) := by omega
    go_wp2_with (refine wpl_load_blk rfl 30 (.tmp 2) rfl w.heap.size rfl _ _ K2.out _ Tryd.underlying30 rfl 13 infoTale rfl ?_)
    refine (tell_any x.e x.sn x.bs A A' x.bs.length c x.st.sl.length c' x.st.v0 x.st.v1 x.st.v2 x.st.v3 x.st.v4 x.st.v5 x.st.v6 x.st.v7 x.st.v8 x.st.sl w2 (HA.out.below L2.out) (HB.out.below L2.out) (HT.out.below L2.out) OX.out.1 OX.out.2.1 OX.out.2.2.1 OX.out.2.2.2.1 OX.out.2.2.2.2 (by omega) (by omega)).mono ?_
    rintro ev w3 ⟨rfl, hb3⟩
    have K3 := Lib.hid (K2.out.below hb3 K2.out.lt)
    have J3 := Lib.hid (J2.out.below hb3 J2.out.lt)
    have L3 := Lib.hid (below_chain L2.out hb3)
    clear hb3 K2 J2 K2u J2u L2 p1 p11 q1 q11
    obtain ⟨S, hS⟩ : ∃ S : ByteArray, S = ⟨(tellT x).toArray⟩ := ⟨_, rfl⟩
    rw [show (⟨(tellL x.e x.sn [x.st.v0, x.st.v1, x.st.v2, x.st.v3, x.st.v4, x.st.v5, x.st.v6, x.st.v7, x.st.v8] x.st.sl x.bs).toArray⟩ : ByteArray) = S from hS.symm]
    have hSz : S.size = (tellT x).length := by rw [hS]; show (tellT x).toArray.size = _; simp
    have hSd : S.data.toList = tellT x := by rw [hS]
    have HS := Lib.hid hS
    have HSz := Lib.hid hSz
    have HSd := Lib.hid hSd
    have hmax : S.size ≤ 9223372036854775807 := by
      have h1 := tell_len OX.out
      rw [hSz]
      omega
    clear hS hSz hSd
    go_wp2
    go_loopg [6] S.size (TaI S.size w3)
    case atStart => exact ⟨0, rfl, by omega, rfl⟩
    case round =>
      obtain ⟨i, rfl, hi, rfl⟩ := hrel
      obtain ⟨w3, rfl⟩ : ∃ w3 : World, w3 = wr := ⟨_, rfl⟩
      by_cases hlt : i < S.size
      · have hltI : (i : Int) < (S.size : Int) := by omega
        have h1 : i < S.data.size := hlt
        have g1 := ba_get S i hlt
        have hch := tell_line OX.out.1 x.e x.sn x.nums x.st.sl (S.data.toList.getD i 0) (by
          rw [HSd.out, List.getD_eq_getElem?_getD, List.getElem?_eq_getElem (by have := HSz.out; omega)]
          exact List.getElem_mem _)
        generalize S.data.toList.getD i 0 = ch at *
        obtain ⟨hc1, hc2⟩ := hch
        have d1 : ¬ (ch.toNat : Int) < 32 := by omega
        have d2 : ¬ (126 : Int) < (ch.toNat : Int) := by omega
        have d1' : decide ((ch.toNat : Int) < 32) = false := by simp; omega
        have d2' : decide ((126 : Int) < (ch.toNat : Int)) = false := by simp; omega
        go_wp2
        go_roundg (gk - 1)
        case measure => omega
        case rel => exact ⟨i + 1, by go_num, by omega, rfl⟩
      · have hltI : ¬ (i : Int) < (S.size : Int) := by omega
        go_wp2
        obtain ⟨xl, hxl⟩ : ∃ xl, xl = (x.vs (.slice A x.bs.length c) (.slice A' x.st.sl.length c')).toList := ⟨_, rfl⟩
        obtain ⟨yl, hyl⟩ : ∃ yl, yl = (y.vs (.slice B y.bs.length d) (.slice B' y.st.sl.length d')).toList := ⟨_, rfl⟩
        have hxi : (Tryd.prog.info? 30).map (·.size) = some xl.length := by rw [hxl]; exact infoTaleN x _ _
        have hyi : (Tryd.prog.info? 30).map (·.size) = some yl.length := by rw [hyl]; exact infoTaleN y _ _
        have hxr : ∀ w', Blk w' w.heap.size 30 (x.vs (.slice A x.bs.length c) (.slice A' x.st.sl.length c')) → w'.rangeAt w.heap.size 0 xl := fun w' h => by rw [hxl]; exact h.range
        have hyr : ∀ w', Blk w' (w.heap.size + 1) 30 (y.vs (.slice B y.bs.length d) (.slice B' y.st.sl.length d')) → w'.rangeAt (w.heap.size + 1) 0 yl := fun w' h => by rw [hyl]; exact h.range
        have HXl := Lib.hid (show xl.toArray = x.vs (.slice A x.bs.length c) (.slice A' x.st.sl.length c') by rw [hxl])
        have HYl := Lib.hid (show yl.toArray = y.vs (.slice B y.bs.length d) (.slice B' y.st.sl.length d') by rw [hyl])
        have HXi := Lib.hid hxi
        have HYi := Lib.hid hyi
        have HXr := Lib.hid hxr
        have HYr := Lib.hid hyr
        clear hxi hyi hxr hyr hxl hyl
        refine wp_region_qs (fun _ w' => Blk w' w.heap.size 30 (x.vs (.slice A x.bs.length c) (.slice A' x.st.sl.length c')) ∧ Blk w' (w.heap.size + 1) 30 (y.vs (.slice B y.bs.length d) (.slice B' y.st.sl.length d'))) [(0, some 2), (1, some 1), (4, some 1), (5, some 1), (2, none), (3, some 2), (6, none), (7, some 2), (8, some 2)] (by kernel_rfl) (by kernel_rfl) (by kernel_rfl) (by kernel_rfl) (by kernel_rfl) (fun _ _ _ _ _ h => h) ⟨K3.out.drew, J3.out.drew⟩ ?_
        simp only [List.map_cons, List.map_nil, List.getD_cons_succ, List.getD_cons_zero]
        (repeat (first | ((first | (refine qs_row (by rfl) 30 (.tmp 3) rfl (w.heap.size + 1) 0 rfl yl _ (fun _ w' _ _ h => HYr.out w' h.2) Tryd.underlying30 rfl HYi.out ?_) | (refine qs_row (by rfl) 30 (.tmp 2) rfl w.heap.size 0 rfl xl _ (fun _ w' _ _ h => HXr.out w' h.1) Tryd.underlying30 rfl HXi.out ?_)); simp only [Act.put, List.setIfInBounds_toArray, List.set_cons_zero, List.set_cons_succ]) | (refine qs_now (v := ?_) (by rfl) ?_ ?_; rotate_left 1; (· (intro w' hS; go_simp; (try (simp only [↓IntWalk.iteOmega]; go_simp)); (try simp (disch := omega) only [IntWalk.i64_in]); try with_reducible rfl)); simp only [Act.put, List.setIfInBounds_toArray, List.set_cons_zero, List.set_cons_succ]) | (refine qs_run (v := ?_) (by rfl) ?_ ?_; rotate_left 1; (· (intro j w' hS; go_simp; (try (simp only [↓IntWalk.iteOmega]; go_simp)); (try simp (disch := omega) only [IntWalk.i64_in]); try with_reducible rfl)); simp only [Act.put, List.setIfInBounds_toArray, List.set_cons_zero, List.set_cons_succ]) | (refine qs_mid (v := ?_) (by rfl) ?_ ?_; rotate_left 1; (· (intro j w' hj1 hj2 hS; go_simp; (try (simp only [↓IntWalk.iteOmega]; go_simp)); (try simp (disch := omega) only [IntWalk.i64_in]); try with_reducible rfl)); simp only [Act.put, List.setIfInBounds_toArray, List.set_cons_zero, List.set_cons_succ]) | (refine qs_skip (by rfl) ?_; simp only [Act.put, List.setIfInBounds_toArray, List.set_cons_zero, List.set_cons_succ])))
        rw [HXl.out, HYl.out]
        refine qs_act ?_
        have L4 := Lib.hid (show Below w.heap.size w w3.drew from L3.out.drew)
        have K4 := Lib.hid K3.out.drew
        have J4 := Lib.hid J3.out.drew
        generalize w3.drew = w4 at *
        unfold TaleS.vs taleV
        go_wp2_with fail
        refine (tell_any y.e y.sn y.bs B B' y.bs.length d y.st.sl.length d' y.st.v0 y.st.v1 y.st.v2 y.st.v3 y.st.v4 y.st.v5 y.st.v6 y.st.v7 y.st.v8 y.st.sl w4 (HC.out.below L4.out) (HD.out.below L4.out) (HT.out.below L4.out) OY.out.1 OY.out.2.1 OY.out.2.2.1 OY.out.2.2.2.1 OY.out.2.2.2.2 (by omega) (by omega)).mono ?_
        rintro ev w5 ⟨rfl, hb5⟩
        have K5 := Lib.hid (K4.out.below hb5 K4.out.lt)
        have J5 := Lib.hid (J4.out.below hb5 J4.out.lt)
        have L5 := Lib.hid (below_chain L4.out hb5)
        clear hb5 K4 J4 L4
        obtain ⟨S2, hS2⟩ : ∃ S2 : ByteArray, S2 = ⟨(tellT y).toArray⟩ := ⟨_, rfl⟩
        rw [show (⟨(tellL y.e y.sn [y.st.v0, y.st.v1, y.st.v2, y.st.v3, y.st.v4, y.st.v5, y.st.v6, y.st.v7, y.st.v8] y.st.sl y.bs).toArray⟩ : ByteArray) = S2 from hS2.symm]
        have hq : (S.toList == S2.toList) = eqTale x y := by
          rw [HS.out, hS2, str_eq]
          exact tales_same OX.out OY.out
        obtain ⟨q, hqd⟩ : ∃ q, eqTale x y = q := ⟨_, rfl⟩
        rw [hqd] at hq
        have HQ := Lib.hid hqd
        clear hS2 hqd
        go_wp2
        refine ⟨⟨K5.out, J5.out⟩, ?_⟩
        (repeat (first | (refine qs_now (v := ?_) (by rfl) ?_ ?_; rotate_left 1; (· (intro w' hS; go_simp; (try (simp only [↓IntWalk.iteOmega]; go_simp)); (try simp (disch := omega) only [IntWalk.i64_in]); try with_reducible rfl)); simp only [Act.put, List.setIfInBounds_toArray, List.set_cons_zero, List.set_cons_succ]) | (refine qs_run (v := ?_) (by rfl) ?_ ?_; rotate_left 1; (· (intro j w' hS; go_simp; (try (simp only [↓IntWalk.iteOmega]; go_simp)); (try simp (disch := omega) only [IntWalk.i64_in]); try with_reducible rfl)); simp only [Act.put, List.setIfInBounds_toArray, List.set_cons_zero, List.set_cons_succ]) | (refine qs_mid (v := ?_) (by rfl) ?_ ?_; rotate_left 1; (· (intro j w' hj1 hj2 hS; go_simp; (try (simp only [↓IntWalk.iteOmega]; go_simp)); (try simp (disch := omega) only [IntWalk.i64_in]); try with_reducible rfl)); simp only [Act.put, List.setIfInBounds_toArray, List.set_cons_zero, List.set_cons_succ]) | (refine qs_skip (by rfl) ?_; simp only [Act.put, List.setIfInBounds_toArray, List.set_cons_zero, List.set_cons_succ])))
        refine qs_act ?_
        go_wp2_with fail
        refine (same_tale x y _ _ w5 ⟨A, c, A', c', rfl, HA.out.below L5.out, HB.out.below L5.out⟩ ⟨B, d, B', d', rfl, HC.out.below L5.out, HD.out.below L5.out⟩ (by omega) (by omega) (by omega) (by omega)).mono ?_
        rintro ev w6 ⟨rfl, hb6⟩
        rw [HQ.out]
        have K6 := Lib.hid (K5.out.below hb6 K5.out.lt)
        have J6 := Lib.hid (J5.out.below hb6 J5.out.lt)
        have L6 := Lib.hid (below_chain L5.out hb6)
        clear hb6 K5 J5 L5
        have hqq : (q == q) = true := by simp
        go_wp2
        refine ⟨⟨K6.out, J6.out⟩, ?_⟩
        (repeat (first | (refine qs_now (v := ?_) (by rfl) ?_ ?_; rotate_left 1; (· (intro w' hS; go_simp; (try (simp only [↓IntWalk.iteOmega]; go_simp)); (try simp (disch := omega) only [IntWalk.i64_in]); try with_reducible rfl)); simp only [Act.put, List.setIfInBounds_toArray, List.set_cons_zero, List.set_cons_succ]) | (refine qs_run (v := ?_) (by rfl) ?_ ?_; rotate_left 1; (· (intro j w' hS; go_simp; (try (simp only [↓IntWalk.iteOmega]; go_simp)); (try simp (disch := omega) only [IntWalk.i64_in]); try with_reducible rfl)); simp only [Act.put, List.setIfInBounds_toArray, List.set_cons_zero, List.set_cons_succ]) | (refine qs_mid (v := ?_) (by rfl) ?_ ?_; rotate_left 1; (· (intro j w' hj1 hj2 hS; go_simp; (try (simp only [↓IntWalk.iteOmega]; go_simp)); (try simp (disch := omega) only [IntWalk.i64_in]); try with_reducible rfl)); simp only [Act.put, List.setIfInBounds_toArray, List.set_cons_zero, List.set_cons_succ]) | (refine qs_skip (by rfl) ?_; simp only [Act.put, List.setIfInBounds_toArray, List.set_cons_zero, List.set_cons_succ])))
        refine qs_nil ?_
        go_wp2
        go_ret
        exact ⟨rfl, L6.out⟩
  · have hmI : (2000 : Int) < (x.bs.length : Int) + (y.bs.length : Int) + (x.st.sl.length : Int) + (y.st.sl.length : Int) := by omega
    go_wp2
    go_ret
    exact ⟨rfl, L2.out⟩
end Go.Proofs.YtonpihoidjahhaaDoor
