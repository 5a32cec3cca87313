/-
  inflate's matches, walked.
-/
import Derived.Test.YtacidmamfkfipaaDoorStored
namespace Go.Proofs.YtacidmamfkfipaaDoor
open Go.RowKit
set_option linter.unusedVariables false

theorem symR_bad {bt zs : List Int} {p : Nat} {b : Bool} (h : symR bt zs p = .bad b) : b = false := by
  unfold symR at h
  split at h
  · cases h
  · injection h with h; exact h.symm
/-- A step that reads, behind others: an error stays what it was. -/
theorem took_next {e1 : Int} {T1 : Res Nat} {v p2 : Nat} {e2 : Int} {T : Res (List Int)} {G : Nat → Nat → Res (List Int)} (hb : ∀ b, T1 = .bad b → b = false) (h1 : (e1 = 4 ∧ T = .bad false) ∨ (e1 = 0 ∧ T = T1.bind G)) (h : Took e1 T1 v p2 e2) :
    (e2 = 4 ∧ T = .bad false) ∨ (e2 = 0 ∧ T = G v p2) := by
  rcases h1 with ⟨rfl, hT⟩ | ⟨rfl, hT⟩
  · left
    refine ⟨?_, hT⟩
    rcases took_or h with ⟨_, h⟩ | ⟨b, _, _, h⟩
    · exact h
    · rw [h]; rfl
  · rcases took_or h with ⟨k, h⟩ | ⟨b, k, _, h⟩
    · right
      refine ⟨h, ?_⟩
      rw [hT, k]; rfl
    · left
      obtain rfl := hb b k
      refine ⟨h, ?_⟩
      rw [hT, k]; rfl
theorem copyR_len (out : List Int) (far : Nat) : ∀ n, (copyR out far n).length = out.length + n
  | 0 => rfl
  | n + 1 => by simp [copyR, copyR_len out far n]; omega

/-- One byte more: the row has grown, and is laid down. -/
theorem str_push {w w8 w9 : World} {base s r p : Nat} {bs o1 : List Int} {most e x : Int} {A : Option Addr} {n c : Nat} {v9 : Value} (H : StrOk w base s r bs p o1 most e) (hb : Blk w s 57 #[.pointer (some ⟨r, 0, none⟩), .slice A n c, .int .i64 most, .int .i64 e])
    (L8 : Below w.heap.size w w8) (hg9 : w8.grownBy w9 (Value.slice A n c).ownBlock) (hor9 : v9.ownBlock = (Value.slice A n c).ownBlock ∨ v9.ownBlock = some w8.heap.size) (ho9 : w9.ownsRow 0 5 1 v9 (o1 ++ [x]).length ((o1 ++ [x]).map (Value.int .u8))) (hx : 0 ≤ x ∧ x < 256) :
    StrOk (w9.setCell ⟨s, 1, none⟩ v9) base s r bs p (o1 ++ [x]) most e ∧ StStep w (w9.setCell ⟨s, 1, none⟩ v9) base s r ∧ Blk w9 s 57 #[.pointer (some ⟨r, 0, none⟩), .slice A n c, .int .i64 most, .int .i64 e] := by
  have H8 := H.below L8
  have B8 := hb.below L8 hb.lt
  obtain ⟨a1, a2, a3, a4, a5, a6, v7, a7, a8, a9⟩ := H
  obtain rfl : v7 = .slice A n c := by
    have := a7.cell (i := 1) rfl
    rw [hb.cell (i := 1) rfl] at this
    injection this with this
    exact this.symm
  obtain ⟨r9, b9, st9⟩ := H8.grow B8 hg9
  have hb9 : base ≤ w9.heap.size := Nat.le_trans (Nat.le_trans a5 L8.size) hg9.size
  have lo9 : ∀ j, v9.ownBlock = some j → base ≤ j := fun j hj => by
    rcases hor9 with e | e
    · exact a9 j (by rw [← e, hj])
    · rw [hj] at e
      injection e with e
      have := L8.size
      omega
  have hB9 : Bytes (o1 ++ [x]) := fun z hz => by
    rcases List.mem_append.1 hz with hz | hz
    · exact a6 z hz
    · obtain rfl : z = x := by simpa using hz
      exact hx
  have hlay := str_lay (v := v9) r9 a2 a3 a4 hb9 hB9 b9 ho9 lo9
  exact ⟨hlay.1, (StStep.of_below L8 a5).trans (st9.trans hlay.2), b9⟩
def Mat (base s r : Nat) (bs out : List Int) (most p far n : Nat) (w : World) (iv : Value) (wr : World) : Prop :=
  ∃ i : Nat, i ≤ n ∧ iv = .int .i64 i ∧ StrOk wr base s r bs p (copyR out far i) (most : Int) 0 ∧ StStep w wr base s r

set_option maxHeartbeats 1600000 in
theorem match_any (base s r gd : Nat) (bs ds : List Int) (p : Nat) (out : List Int) (most v : Nat) (w : World) (h : StrOk w base s r bs p out (most : Int) 0) (hd : DecOk w gd ds) (hok : countsOk ds = true) (ht : TabsOk w) (hs5 : 5 ≤ s) (hr5 : 5 ≤ r) (hB : Bytes bs) (hl : bs.length ≤ 1000000000) (hm : most ≤ 65536) (ho : out.length ≤ most) (hv : v ≤ 1000) :
    Calls Tryd.prog 59 #[.pointer (some ⟨s, 0, none⟩), .int .i64 (v : Int), .pointer (some ⟨gd, 0, none⟩)] w (VoidPost base s r bs most (matchR (bitsOf bs) most ds out v p) w) := by
  have H := Lib.hid h
  have HD := Lib.hid hd
  have HTb := Lib.hid ht
  have HBy := Lib.hid hB
  obtain ⟨_, h2, h3, h4, h5, h6, _⟩ := h
  have hbase : 5 ≤ base := by omega
  clear hd ht hB
  by_cases hv29 : 29 ≤ v
  · have d1 : decide ((29 : Int) ≤ v) = true := by simp; omega
    have HT := Lib.hid (show matchR (bitsOf bs) most ds out v p = .bad false by unfold matchR; rw [if_pos hv29])
    go_enter Tryd.func59, Tryd.ntmps59
    go_wp2_with (go_at_call 32; refine (fail_any base s r bs p out (most : Int) 0 4 w H.out).mono ?_; rintro ev w5 ⟨rfl, h5', s5, _⟩; have H5 := Lib.hid h5'; have S5 := Lib.hid s5; clear h5' s5)
    go_end0
    exact ⟨p, out, 4, rfl, H5.out, S5.out, ho, by rw [HT.out]; rfl⟩
  have d1 : decide ((29 : Int) ≤ v) = false := by simp; omega
  have hv' : v < 29 := by omega
  have hvI : (v : Int) < 29 := by omega
  have HTu := Lib.hid (show matchR (bitsOf bs) most ds out v p = (numR (bitsOf bs) p (lbits.getD v 0).toNat).bind fun x p => (symR (bitsOf bs) ds p).bind fun k p =>
    if 30 ≤ k then .bad false else
    (numR (bitsOf bs) p (dbits.getD k 0).toNat).bind fun y p =>
      if out.length < (dbases.getD k 0).toNat + y then .bad false else
      if most < out.length + ((lbases.getD v 0).toNat + x) then .bad true else
      .ok (copyR out ((dbases.getD k 0).toNat + y) ((lbases.getD v 0).toNat + x)) p by unfold matchR; rw [if_neg hv29])
  generalize matchR (bitsOf bs) most ds out v p = T at *
  have q1 := HTb.out.1 v hv'
  have q2 := HTb.out.2.1 v hv'
  have hlb := lb_bd v hv'
  obtain ⟨lb, hlb1⟩ : ∃ lb : Nat, lbases.getD v 0 = lb := ⟨(lbases.getD v 0).toNat, by omega⟩
  obtain ⟨lx, hlx1⟩ : ∃ lx : Nat, lbits.getD v 0 = lx := ⟨(lbits.getD v 0).toNat, by omega⟩
  rw [hlb1] at q1 hlb HTu
  rw [hlx1] at q2 hlb HTu
  simp only [Int.toNat_natCast] at HTu
  have HLb := Lib.hid hlb1
  clear hlb1 hlx1
  go_enter Tryd.func59, Tryd.ntmps59
  go_wp2
  refine wp_region_qs (fun j w' => (j ≤ 1 → w'.cell? ⟨1, v, none⟩ = some (.int .i64 (lb : Int))) ∧ (j ≤ 0 → w'.cell? ⟨2, v, none⟩ = some (.int .i64 (lx : Int)))) [(0, some 1), (1, some 1), (2, some 1), (3, some 0), (4, some 1), (5, some 1), (6, some 0), (7, none), (8, some 1), (9, some 1)] (by kernel_rfl) (by kernel_rfl) (by kernel_rfl) (by kernel_rfl) (by kernel_rfl) (fun _ _ _ _ _ h => h) ⟨fun _ => q1, fun _ => q2⟩ ?_
  simp only [List.map_cons, List.map_nil, List.getD_cons_succ, List.getD_cons_zero]
  (repeat (first | (refine qs_now (v := ?_) (by rfl) ?_ ?_; rotate_left 1; (· (intro w' hS; go_simp; (try (simp only [↓IntWalk.iteOmega]; go_simp)); (try simp (disch := omega) only [IntWalk.i64_in]); try with_reducible rfl)); simp only [Act.put, List.setIfInBounds_toArray, List.set_cons_zero, List.set_cons_succ]) | (refine qs_run (v := ?_) (by rfl) ?_ ?_; rotate_left 1; (· (intro j w' hS; go_simp; (try (simp only [↓IntWalk.iteOmega]; go_simp)); (try simp (disch := omega) only [IntWalk.i64_in]); try with_reducible rfl)); simp only [Act.put, List.setIfInBounds_toArray, List.set_cons_zero, List.set_cons_succ]) | (refine qs_mid (v := ?_) (by rfl) ?_ ?_; rotate_left 1; (· (intro j w' hj1 hj2 hS; go_simp; (try (simp only [↓IntWalk.iteOmega]; go_simp)); (try simp (disch := omega) only [IntWalk.i64_in]); try with_reducible rfl)); simp only [Act.put, List.setIfInBounds_toArray, List.set_cons_zero, List.set_cons_succ]) | (refine qs_skip (by rfl) ?_; simp only [Act.put, List.setIfInBounds_toArray, List.set_cons_zero, List.set_cons_succ])))
  refine qs_act ?_
  go_wp2_with fail
  have L0 := Lib.hid ((Below.refl w.heap.size w).drew)
  refine (number_any base s r bs p out (most : Int) 0 lx w.drew (H.out.below L0.out) HBy.out hl (by omega)).mono ?_
  rintro ev w1 ⟨x, p1, e1, rfl, hx, hs1, st1, tk1, k1⟩
  have H1 := Lib.hid hs1
  have S1 := Lib.hid ((StStep.of_below L0.out h5).trans st1)
  have T1 := Lib.hid (took_next (fun b => numR_bad) (.inr ⟨rfl, HTu.out⟩) tk1)
  have hx32 : x < 32 := Nat.lt_of_lt_of_le hx (Nat.pow_le_pow_right (n := 2) (i := lx) (j := 5) (by omega) (by omega))
  have TB1 := Lib.hid (HTb.out.step S1.out hs5 hr5 hbase)
  have HD1 := Lib.hid (H.out.dec S1.out HD.out)
  have q1' := TB1.out.1 v hv'
  rw [HLb.out] at q1'
  clear hs1 st1 tk1 k1 HTu q1 q2 hx
  go_wp2
  refine ⟨⟨fun _ => q1', fun h => absurd h (by omega)⟩, ?_⟩
  (repeat (first | (refine qs_now (v := ?_) (by rfl) ?_ ?_; rotate_left 1; (· (intro w' hS; go_simp; (try (simp only [↓IntWalk.iteOmega]; go_simp)); (try simp (disch := omega) only [IntWalk.i64_in]); try with_reducible rfl)); simp only [Act.put, List.setIfInBounds_toArray, List.set_cons_zero, List.set_cons_succ]) | (refine qs_run (v := ?_) (by rfl) ?_ ?_; rotate_left 1; (· (intro j w' hS; go_simp; (try (simp only [↓IntWalk.iteOmega]; go_simp)); (try simp (disch := omega) only [IntWalk.i64_in]); try with_reducible rfl)); simp only [Act.put, List.setIfInBounds_toArray, List.set_cons_zero, List.set_cons_succ]) | (refine qs_mid (v := ?_) (by rfl) ?_ ?_; rotate_left 1; (· (intro j w' hj1 hj2 hS; go_simp; (try (simp only [↓IntWalk.iteOmega]; go_simp)); (try simp (disch := omega) only [IntWalk.i64_in]); try with_reducible rfl)); simp only [Act.put, List.setIfInBounds_toArray, List.set_cons_zero, List.set_cons_succ]) | (refine qs_skip (by rfl) ?_; simp only [Act.put, List.setIfInBounds_toArray, List.set_cons_zero, List.set_cons_succ])))
  refine qs_nil ?_
  go_wp2_with fail
  refine (symbol_any base s r gd bs ds p1 out (most : Int) e1 w1 H1.out HD1.out hok HBy.out hl).mono ?_
  rintro ev w2 ⟨k, p2, e2, rfl, hk, hs2, st2, tk2⟩
  have H2 := Lib.hid hs2
  have S2 := Lib.hid (S1.out.trans st2)
  have T2 := Lib.hid (took_next (fun b => symR_bad) T1.out tk2)
  have TB2 := Lib.hid (TB1.out.step st2 hs5 hr5 hbase)
  have hk288 : k ≤ 288 := by have := len_of hok; omega
  clear hs2 st2 tk2 T1 q1' H1 S1 TB1 HD1
  by_cases hk30 : 30 ≤ k
  · have d2 : decide ((30 : Int) ≤ k) = true := by simp; omega
    go_wp2_with (go_at_call 32; refine (fail_any base s r bs p2 out (most : Int) e2 4 w2 H2.out).mono ?_; rintro ev w5 ⟨rfl, h5', s5, _⟩; have H5 := Lib.hid h5'; have S5 := Lib.hid (S2.out.trans s5); clear h5' s5)
    go_end0
    have he : (if e2 = 0 then (4 : Int) else e2) = 4 ∧ T = .bad false := by
      rcases T2.out with ⟨h, k⟩ | ⟨h, k⟩
      · rw [if_neg (by omega)]; exact ⟨h, k⟩
      · rw [if_pos hk30] at k
        rw [if_pos h]; exact ⟨rfl, k⟩
    exact ⟨p2, out, _, rfl, H5.out, S5.out, ho, by rw [he.1, he.2]; rfl⟩
  · have d2 : decide ((30 : Int) ≤ k) = false := by simp; omega
    rw [if_neg hk30] at T2
    have hk' : k < 30 := by omega
    have hkI : (k : Int) < 30 := by omega
    have q3 := TB2.out.2.2.1 k hk'
    have q4 := TB2.out.2.2.2.1 k hk'
    have hdb := db_bd k hk'
    obtain ⟨db, hdb1⟩ : ∃ db : Nat, dbases.getD k 0 = db := ⟨(dbases.getD k 0).toNat, by omega⟩
    obtain ⟨dx, hdx1⟩ : ∃ dx : Nat, dbits.getD k 0 = dx := ⟨(dbits.getD k 0).toNat, by omega⟩
    rw [hdb1] at q3 hdb T2
    rw [hdx1] at q4 hdb T2
    simp only [Int.toNat_natCast] at T2
    have HDb := Lib.hid hdb1
    clear hdb1 hdx1
    go_wp2
    refine wp_region_qs (fun j w' => (j ≤ 1 → w'.cell? ⟨3, k, none⟩ = some (.int .i64 (db : Int))) ∧ (j ≤ 0 → w'.cell? ⟨4, k, none⟩ = some (.int .i64 (dx : Int)))) [(0, some 1), (1, some 1), (2, some 1), (3, some 0), (4, some 1), (5, some 1), (6, some 0), (7, none), (8, some 1), (9, some 1)] (by kernel_rfl) (by kernel_rfl) (by kernel_rfl) (by kernel_rfl) (by kernel_rfl) (fun _ _ _ _ _ h => h) ⟨fun _ => q3, fun _ => q4⟩ ?_
    simp only [List.map_cons, List.map_nil, List.getD_cons_succ, List.getD_cons_zero]
    (repeat (first | (refine qs_now (v := ?_) (by rfl) ?_ ?_; rotate_left 1; (· (intro w' hS; go_simp; (try (simp only [↓IntWalk.iteOmega]; go_simp)); (try simp (disch := omega) only [IntWalk.i64_in]); try with_reducible rfl)); simp only [Act.put, List.setIfInBounds_toArray, List.set_cons_zero, List.set_cons_succ]) | (refine qs_run (v := ?_) (by rfl) ?_ ?_; rotate_left 1; (· (intro j w' hS; go_simp; (try (simp only [↓IntWalk.iteOmega]; go_simp)); (try simp (disch := omega) only [IntWalk.i64_in]); try with_reducible rfl)); simp only [Act.put, List.setIfInBounds_toArray, List.set_cons_zero, List.set_cons_succ]) | (refine qs_mid (v := ?_) (by rfl) ?_ ?_; rotate_left 1; (· (intro j w' hj1 hj2 hS; go_simp; (try (simp only [↓IntWalk.iteOmega]; go_simp)); (try simp (disch := omega) only [IntWalk.i64_in]); try with_reducible rfl)); simp only [Act.put, List.setIfInBounds_toArray, List.set_cons_zero, List.set_cons_succ]) | (refine qs_skip (by rfl) ?_; simp only [Act.put, List.setIfInBounds_toArray, List.set_cons_zero, List.set_cons_succ])))
    refine qs_act ?_
    go_wp2_with fail
    have L2 := Lib.hid ((Below.refl w2.heap.size w2).drew)
    have hb2 : base ≤ w2.heap.size := H2.out.2.2.2.2.1
    refine (number_any base s r bs p2 out (most : Int) e2 dx w2.drew (H2.out.below L2.out) HBy.out hl (by omega)).mono ?_
    rintro ev w3 ⟨y, p3, e3, rfl, hy, hs3, st3, tk3, k3⟩
    have H3 := Lib.hid hs3
    have S3 := Lib.hid (S2.out.trans ((StStep.of_below L2.out hb2).trans st3))
    have T3 := Lib.hid (took_next (fun b => numR_bad) T2.out tk3)
    have hy13 : y < 8192 := Nat.lt_of_lt_of_le hy (Nat.pow_le_pow_right (n := 2) (i := dx) (j := 13) (by omega) (by omega))
    have TB3 := Lib.hid ((TB2.out.step (StStep.of_below L2.out hb2) hs5 hr5 hbase).step st3 hs5 hr5 hbase)
    have q3' := TB3.out.2.2.1 k hk'
    rw [HDb.out] at q3'
    clear hs3 st3 tk3 k3 T2 q3 q4 hy H2 S2
    go_wp2
    refine ⟨⟨fun _ => q3', fun h => absurd h (by omega)⟩, ?_⟩
    (repeat (first | (refine qs_now (v := ?_) (by rfl) ?_ ?_; rotate_left 1; (· (intro w' hS; go_simp; (try (simp only [↓IntWalk.iteOmega]; go_simp)); (try simp (disch := omega) only [IntWalk.i64_in]); try with_reducible rfl)); simp only [Act.put, List.setIfInBounds_toArray, List.set_cons_zero, List.set_cons_succ]) | (refine qs_run (v := ?_) (by rfl) ?_ ?_; rotate_left 1; (· (intro j w' hS; go_simp; (try (simp only [↓IntWalk.iteOmega]; go_simp)); (try simp (disch := omega) only [IntWalk.i64_in]); try with_reducible rfl)); simp only [Act.put, List.setIfInBounds_toArray, List.set_cons_zero, List.set_cons_succ]) | (refine qs_mid (v := ?_) (by rfl) ?_ ?_; rotate_left 1; (· (intro j w' hj1 hj2 hS; go_simp; (try (simp only [↓IntWalk.iteOmega]; go_simp)); (try simp (disch := omega) only [IntWalk.i64_in]); try with_reducible rfl)); simp only [Act.put, List.setIfInBounds_toArray, List.set_cons_zero, List.set_cons_succ]) | (refine qs_skip (by rfl) ?_; simp only [Act.put, List.setIfInBounds_toArray, List.set_cons_zero, List.set_cons_succ])))
    refine qs_nil ?_
    obtain ⟨r1, r2, r3, r4, r5, r6, v3, r7, r8, r9⟩ := H3.out
    obtain ⟨A3, c3, rfl, _⟩ := own_slice r8
    have c1 := r7.cell (i := 1) (v := .slice A3 out.length c3) rfl
    clear r1 r7 r8 r9
    obtain ⟨far, hfarE⟩ : ∃ far : Nat, (far : Int) = (db : Int) + y := ⟨db + y, by omega⟩
    have hf1 : 1 ≤ far := by omega
    have hfe : db + y = far := by omega
    rw [hfe] at T3
    rw [← hfarE]
    obtain ⟨n, hnE⟩ : ∃ n : Nat, (n : Int) = (lb : Int) + x := ⟨lb + x, by omega⟩
    have hne : lb + x = n := by omega
    have hn300 : n ≤ 300 := by omega
    rw [hne] at T3
    rw [← hnE]
    clear hfarE hfe hnE hne HLb HDb q3' hlb hdb TB2 TB3 L0 L2 H HD HTb
    by_cases hfar : out.length < far
    · have hfarI : (out.length : Int) < (far : Int) := by omega
      go_wp2_with (first
        | (go_at_call 32; refine (fail_any base s r bs p3 out (most : Int) e3 4 w3 H3.out).mono ?_; rintro ev w5 ⟨rfl, h5', s5, _⟩; have H5 := Lib.hid h5'; have S5 := Lib.hid (S3.out.trans s5); clear h5' s5)
        | fail)
      have he5 : (if e3 = 0 then (4 : Int) else e3) = 4 ∧ T = .bad false := by
        rcases T3.out with ⟨h, k⟩ | ⟨h, k⟩
        · rw [if_neg (by omega)]; exact ⟨h, k⟩
        · rw [if_pos (by omega)] at k
          rw [if_pos h]; exact ⟨rfl, k⟩
      rw [he5.1] at H5
      have HT := Lib.hid he5.2
      clear he5 T3
      refine (room_any base s r bs p3 out (most : Int) 4 n w5 H5.out (by omega) (by omega)).mono ?_
      rintro ev w6 ⟨e6, rfl, h6', s6, he6⟩
      rw [if_neg (by omega)] at he6
      subst he6
      have H6 := Lib.hid h6'
      have S6 := Lib.hid (S5.out.trans s6)
      clear h6' s6 H5 S5 c1
      go_wp2
      go_end0
      exact ⟨p3, out, 4, rfl, H6.out, S6.out, ho, by rw [HT.out]; rfl⟩
    · have hfarI : ¬ (out.length : Int) < (far : Int) := by omega
      rw [if_neg hfar] at T3
      go_wp2_with fail
      refine (room_any base s r bs p3 out (most : Int) e3 n w3 H3.out (by omega) (by omega)).mono ?_
      rintro ev w6 ⟨e6, rfl, h6', s6, he6⟩
      have H6 := Lib.hid h6'
      have S6 := Lib.hid (S3.out.trans s6)
      clear h6' s6 H3 S3 c1
      rcases T3.out with ⟨he3, hT⟩ | ⟨he3, hT⟩
      · rw [he3, if_neg (by omega)] at he6
        subst he6
        go_wp2
        go_end0
        exact ⟨p3, out, 4, rfl, H6.out, S6.out, ho, by rw [hT]; rfl⟩
      · by_cases hlong : most < out.length + n
        · rw [he3, if_pos ⟨rfl, by omega⟩] at he6
          rw [if_pos hlong] at hT
          subst he6
          go_wp2
          go_end0
          exact ⟨p3, out, 3, rfl, H6.out, S6.out, ho, by rw [hT]; rfl⟩
        · rw [he3, if_neg (by omega)] at he6
          rw [if_neg hlong] at hT
          subst he6
          have HT := Lib.hid hT
          clear hT T3
          go_wp2
          go_loopw [52] (Mat base s r bs out most p3 far n w) (fun i _ => n - (intOf i).toNat)
          case atStart => exact ⟨0, by omega, rfl, H6.out, S6.out⟩
          case round =>
            clear H6 S6
            obtain ⟨i, hi, rfl, hs, hst⟩ := hrel
            have HS := Lib.hid hs
            have HSt := Lib.hid hst
            clear hs hst
            by_cases hlt : i < n
            · have hltI : (i : Int) < n := by omega
              obtain ⟨g1, g2, g3, g4, g5, g6, v, g7, g8, g9⟩ := HS.out
              have hol : (copyR out far i).length = out.length + i := copyR_len out far i
              have HBs := Lib.hid (show copyR out far (i + 1) = copyR out far i ++ [(copyR out far i).getD ((copyR out far i).length - far) 0] from rfl)
              generalize ho1 : copyR out far i = o1 at *
              obtain ⟨g, c, rfl, _, hglt⟩ := g8.form (by omega)
              have c1 := g7.cell (i := 1) (v := .slice (some ⟨g, 0, none⟩) o1.length c) rfl
              have HV := Lib.hid g7
              have cx := g8.cells (g := g) rfl (o1.length - far) (Value.int .u8 (o1.getD (o1.length - far) 0)) (by simp [show o1.length - far < o1.length by omega])
              rw [Addr.add_mid, Nat.zero_add] at cx
              have hxb : 0 ≤ o1.getD (o1.length - far) 0 ∧ o1.getD (o1.length - far) 0 < 256 := by
                refine g6 _ ?_
                rw [List.getD_eq_getElem?_getD, List.getElem?_eq_getElem (by omega)]
                exact List.getElem_mem _
              generalize hx0 : o1.getD (o1.length - far) 0 = x0 at *
              clear hx0 ho1
              have HOl := Lib.hid hol
              have H9 := Lib.hid g9
              have H8o := Lib.hid g8
              have hfo : (far : Int) ≤ o1.length := by omega
              have hlo : o1.length ≤ 65536 := by omega
              clear g1 g7 g8 g9 hol
              go_wp2
              refine wp_region_qs (fun j w' => (j ≤ 2 → w'.cell? ⟨s, 1, none⟩ = some (.slice (some ⟨g, 0, none⟩) o1.length c)) ∧ (j ≤ 1 → w'.cell? ⟨s, 1, none⟩ = some (.slice (some ⟨g, 0, none⟩) o1.length c)) ∧ (j ≤ 1 → w'.cell? ⟨g, o1.length - far, none⟩ = some (.int .u8 x0))) [(0, some 2), (1, some 2), (2, some 2), (3, some 2), (4, some 1), (5, some 2), (6, some 2), (7, some 2), (8, some 2), (9, some 2), (10, some 2), (11, some 2), (12, some 2), (13, some 2), (14, some 2), (15, some 2), (16, some 2), (17, some 1), (18, none), (19, none), (20, some 3), (21, some 2), (22, none)] (by kernel_rfl) (by kernel_rfl) (by kernel_rfl) (by kernel_rfl) (by kernel_rfl) (fun _ _ _ _ _ h => h) ⟨fun _ => c1, fun _ => c1, fun _ => cx⟩ ?_
              simp only [List.map_cons, List.map_nil, List.getD_cons_succ, List.getD_cons_zero]
              (repeat (first | (refine qs_now (v := ?_) (by rfl) ?_ ?_; rotate_left 1; (· (intro w' hS; go_simp; (try (simp only [↓IntWalk.iteOmega]; go_simp)); (try simp (disch := omega) only [IntWalk.i64_in]); try with_reducible rfl)); simp only [Act.put, List.setIfInBounds_toArray, List.set_cons_zero, List.set_cons_succ]) | (refine qs_run (v := ?_) (by rfl) ?_ ?_; rotate_left 1; (· (intro j w' hS; go_simp; (try (simp only [↓IntWalk.iteOmega]; go_simp)); (try simp (disch := omega) only [IntWalk.i64_in]); try with_reducible rfl)); simp only [Act.put, List.setIfInBounds_toArray, List.set_cons_zero, List.set_cons_succ]) | (refine qs_mid (v := ?_) (by rfl) ?_ ?_; rotate_left 1; (· (intro j w' hj1 hj2 hS; go_simp; (try (simp only [↓IntWalk.iteOmega]; go_simp)); (try simp (disch := omega) only [IntWalk.i64_in]); try with_reducible rfl)); simp only [Act.put, List.setIfInBounds_toArray, List.set_cons_zero, List.set_cons_succ]) | (refine qs_skip (by rfl) ?_; simp only [Act.put, List.setIfInBounds_toArray, List.set_cons_zero, List.set_cons_succ])))
              refine qs_act ?_
              go_wp2
              obtain ⟨w8, hw8⟩ : ∃ w8, w8 = (wr.alloc (.cells #[.int .u8 x0] 5)).drew := ⟨_, rfl⟩
              rw [← hw8]
              have L8 := Lib.hid (show Below wr.heap.size wr w8 by rw [hw8]; exact ((Below.refl _ _).alloc (Nat.le_refl _) _).drew)
              have S8 := Lib.hid (show Src w8 1 (.slice (some ⟨wr.heap.size, 0, none⟩) 1 1) 1 [.int .u8 x0] by rw [hw8]; exact src_u8 wr _ _)
              clear hw8
              have B8 := Lib.hid (HV.out.below L8.out HV.out.lt)
              have O8 := Lib.hid (own_below H8o.out L8.out)
              refine ⟨⟨fun _ => B8.out.cell (i := 1) rfl, fun _ => B8.out.cell (i := 1) rfl, fun _ => (L8.out.cell (p := ⟨g, _, none⟩) hglt).trans cx⟩, ?_⟩
              (repeat (first | (refine qs_now (v := ?_) (by rfl) ?_ ?_; rotate_left 1; (· (intro w' hS; go_simp; (try (simp only [↓IntWalk.iteOmega]; go_simp)); (try simp (disch := omega) only [IntWalk.i64_in]); try with_reducible rfl)); simp only [Act.put, List.setIfInBounds_toArray, List.set_cons_zero, List.set_cons_succ]) | (refine qs_run (v := ?_) (by rfl) ?_ ?_; rotate_left 1; (· (intro j w' hS; go_simp; (try (simp only [↓IntWalk.iteOmega]; go_simp)); (try simp (disch := omega) only [IntWalk.i64_in]); try with_reducible rfl)); simp only [Act.put, List.setIfInBounds_toArray, List.set_cons_zero, List.set_cons_succ]) | (refine qs_mid (v := ?_) (by rfl) ?_ ?_; rotate_left 1; (· (intro j w' hj1 hj2 hS; go_simp; (try (simp only [↓IntWalk.iteOmega]; go_simp)); (try simp (disch := omega) only [IntWalk.i64_in]); try with_reducible rfl)); simp only [Act.put, List.setIfInBounds_toArray, List.set_cons_zero, List.set_cons_succ]) | (refine qs_skip (by rfl) ?_; simp only [Act.put, List.setIfInBounds_toArray, List.set_cons_zero, List.set_cons_succ])))
              refine qs_act ?_
              refine app_src rfl (.tmp 58) (.tmp 72) 22 rfl 0 5 _ 1 1 Tryd.underlying22 infoByte rfl (by omega) _ o1.length _ rfl O8.out _ 1 _ rfl S8.out (by simp [Value.oneCell']) (by omega) (by omega) (Nat.zero_le _) ?_
              intro v9 w9 ho9 hg9 hor9
              obtain ⟨A9', c9, hv9, _⟩ := own_slice ho9
              subst hv9
              have hP := str_push (v9 := .slice A9' (o1.length + 1) c9) (x := x0) HS.out HV.out L8.out hg9 hor9 (by simpa using ho9) hxb
              have f9 := hP.2.2.free 1
              have d9 := hP.2.2.cell (i := 1) rfl
              have HP := Lib.hid hP
              clear ho9 hg9 hor9 hP
              refine wpList_nil ?_
              refine ⟨⟨fun _ => d9, fun h => absurd h (by omega), fun h => absurd h (by omega)⟩, ?_⟩
              (repeat (first | (refine qs_now (v := ?_) (by rfl) ?_ ?_; rotate_left 1; (· (intro w' hS; go_simp; (try (simp only [↓IntWalk.iteOmega]; go_simp)); (try simp (disch := omega) only [IntWalk.i64_in]); try with_reducible rfl)); simp only [Act.put, List.setIfInBounds_toArray, List.set_cons_zero, List.set_cons_succ]) | (refine qs_run (v := ?_) (by rfl) ?_ ?_; rotate_left 1; (· (intro j w' hS; go_simp; (try (simp only [↓IntWalk.iteOmega]; go_simp)); (try simp (disch := omega) only [IntWalk.i64_in]); try with_reducible rfl)); simp only [Act.put, List.setIfInBounds_toArray, List.set_cons_zero, List.set_cons_succ]) | (refine qs_mid (v := ?_) (by rfl) ?_ ?_; rotate_left 1; (· (intro j w' hj1 hj2 hS; go_simp; (try (simp only [↓IntWalk.iteOmega]; go_simp)); (try simp (disch := omega) only [IntWalk.i64_in]); try with_reducible rfl)); simp only [Act.put, List.setIfInBounds_toArray, List.set_cons_zero, List.set_cons_succ]) | (refine qs_skip (by rfl) ?_; simp only [Act.put, List.setIfInBounds_toArray, List.set_cons_zero, List.set_cons_succ])))
              refine qs_act ?_
              go_wp2
              refine ⟨⟨fun h => absurd h (by omega), fun h => absurd h (by omega), fun h => absurd h (by omega)⟩, ?_⟩
              refine qs_nil ?_
              go_wp2
              go_roundw
              case rel =>
                refine ⟨i + 1, by omega, by go_num, ?_, HSt.out.trans HP.out.2.1⟩
                rw [HBs.out]
                exact HP.out.1
              case measure => simp [intOf]; omega
            · obtain rfl : i = n := by omega
              go_wp2
              go_end0
              exact ⟨_, _, 0, rfl, HS.out, HSt.out, by rw [copyR_len]; omega, by rw [HT.out]; exact ⟨rfl, rfl, rfl⟩⟩
end Go.Proofs.YtacidmamfkfipaaDoor
