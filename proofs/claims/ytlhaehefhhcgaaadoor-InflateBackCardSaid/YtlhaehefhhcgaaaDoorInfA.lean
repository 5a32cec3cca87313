/-
  inflate's matches, walked.
  inflate's coded blocks, walked.
  inflate's fixed lengths, walked.
-/
import Derived.Test.YtlhaehefhhcgaaaDoorStored
namespace Go.Proofs.YtlhaehefhhcgaaaDoor
open Go.RowKit
set_option linter.unusedVariables false

theorem symR_bad {bt zs : List Int} {p : Nat} {b : Bool} (h : symR bt zs p = .bad b) : b = false := by
  unfold symR at h
  split at h
  · cases h
  · injection h with h; exact h.symm
/-- A step that reads, behind others: an error stays what it was. -/
theorem took_next {e1 : Int} {T1 : Res Nat} {v p2 : Nat} {e2 : Int} {T : Res (List Int)} {G : Nat → Nat → Res (List Int)} (hb : ∀ b, T1 = .bad b → b = false) (h1 : (e1 = 4 ∧ T = .bad false) ∨ (e1 = 0 ∧ T = T1.bind G)) (h : Took e1 T1 v p2 e2) :
    (e2 = 4 ∧ T = .bad false) ∨ (e2 = 0 ∧ T = G v p2) := by
  rcases h1 with ⟨rfl, hT⟩ | ⟨rfl, hT⟩
  · left
    refine ⟨?_, hT⟩
    rcases took_or h with ⟨_, h⟩ | ⟨b, _, _, h⟩
    · exact h
    · rw [h]; rfl
  · rcases took_or h with ⟨k, h⟩ | ⟨b, k, _, h⟩
    · right
      refine ⟨h, ?_⟩
      rw [hT, k]; rfl
    · left
      obtain rfl := hb b k
      refine ⟨h, ?_⟩
      rw [hT, k]; rfl
theorem copyR_len (out : List Int) (far : Nat) : ∀ n, (copyR out far n).length = out.length + n
  | 0 => rfl
  | n + 1 => by simp [copyR, copyR_len out far n]; omega

/-- One byte more: the row has grown, and is laid down. -/
theorem str_push {w w8 w9 : World} {base s r p : Nat} {bs o1 : List Int} {most e x : Int} {A : Option Addr} {n c : Nat} {v9 : Value} (H : StrOk w base s r bs p o1 most e) (hb : Blk w s 57 #[.pointer (some ⟨r, 0, none⟩), .slice A n c, .int .i64 most, .int .i64 e])
    (L8 : Below w.heap.size w w8) (hg9 : w8.grownBy w9 (Value.slice A n c).ownBlock) (hor9 : v9.ownBlock = (Value.slice A n c).ownBlock ∨ v9.ownBlock = some w8.heap.size) (ho9 : w9.ownsRow 0 5 1 v9 (o1 ++ [x]).length ((o1 ++ [x]).map (Value.int .u8))) (hx : 0 ≤ x ∧ x < 256) :
    StrOk (w9.setCell ⟨s, 1, none⟩ v9) base s r bs p (o1 ++ [x]) most e ∧ StStep w (w9.setCell ⟨s, 1, none⟩ v9) base s r ∧ Blk w9 s 57 #[.pointer (some ⟨r, 0, none⟩), .slice A n c, .int .i64 most, .int .i64 e] := by
  have H8 := H.below L8
  have B8 := hb.below L8 hb.lt
  obtain ⟨a1, a2, a3, a4, a5, a6, v7, a7, a8, a9⟩ := H
  obtain rfl : v7 = .slice A n c := by
    have := a7.cell (i := 1) rfl
    rw [hb.cell (i := 1) rfl] at this
    injection this with this
    exact this.symm
  obtain ⟨r9, b9, st9⟩ := H8.grow B8 hg9
  have hb9 : base ≤ w9.heap.size := Nat.le_trans (Nat.le_trans a5 L8.size) hg9.size
  have lo9 : ∀ j, v9.ownBlock = some j → base ≤ j := fun j hj => by
    rcases hor9 with e | e
    · exact a9 j (by rw [← e, hj])
    · rw [hj] at e
      injection e with e
      have := L8.size
      omega
  have hB9 : Bytes (o1 ++ [x]) := fun z hz => by
    rcases List.mem_append.1 hz with hz | hz
    · exact a6 z hz
    · obtain rfl : z = x := by simpa using hz
      exact hx
  have hlay := str_lay (v := v9) r9 a2 a3 a4 hb9 hB9 b9 ho9 lo9
  exact ⟨hlay.1, (StStep.of_below L8 a5).trans (st9.trans hlay.2), b9⟩
def Mat (base s r : Nat) (bs out : List Int) (most p far n : Nat) (w : World) (iv : Value) (wr : World) : Prop :=
  ∃ i : Nat, i ≤ n ∧ iv = .int .i64 i ∧ StrOk wr base s r bs p (copyR out far i) (most : Int) 0 ∧ StStep w wr base s r

set_option maxHeartbeats 1600000 in
theorem match_any (base s r gd : Nat) (bs ds : List Int) (p : Nat) (out : List Int) (most v : Nat) (w : World) (h : StrOk w base s r bs p out (most : Int) 0) (hd : DecOk w gd ds) (hok : countsOk ds = true) (ht : TabsOk w) (hs5 : 5 ≤ s) (hr5 : 5 ≤ r) (hB : Bytes bs) (hl : bs.length ≤ 1000000000) (hm : most ≤ 65536) (ho : out.length ≤ most) (hv : v ≤ 1000) :
    Calls Tryd.prog 59 #[.pointer (some ⟨s, 0, none⟩), .int .i64 (v : Int), .pointer (some ⟨gd, 0, none⟩)] w (VoidPost base s r bs most (matchR (bitsOf bs) most ds out v p) w) := by
  have H := Lib.hid h
  have HD := Lib.hid hd
  have HTb := Lib.hid ht
  have HBy := Lib.hid hB
  obtain ⟨_, h2, h3, h4, h5, h6, _⟩ := h
  have hbase : 5 ≤ base := by omega
  clear hd ht hB
  by_cases hv29 : 29 ≤ v
  · have d1 : decide ((29 : Int) ≤ v) = true := by simp; omega
    have HT := Lib.hid (show matchR (bitsOf bs) most ds out v p = .bad false by unfold matchR; rw [if_pos hv29])
    go_enter Tryd.func59, Tryd.ntmps59
    go_wp2_with (go_at_call 32; refine (fail_any base s r bs p out (most : Int) 0 4 w H.out).mono ?_; rintro ev w5 ⟨rfl, h5', s5, _⟩; have H5 := Lib.hid h5'; have S5 := Lib.hid s5; clear h5' s5)
    go_end0
    exact ⟨p, out, 4, rfl, H5.out, S5.out, ho, by rw [HT.out]; rfl⟩
  have d1 : decide ((29 : Int) ≤ v) = false := by simp; omega
  have hv' : v < 29 := by omega
  have hvI : (v : Int) < 29 := by omega
  have HTu := Lib.hid (show matchR (bitsOf bs) most ds out v p = (numR (bitsOf bs) p (lbits.getD v 0).toNat).bind fun x p => (symR (bitsOf bs) ds p).bind fun k p =>
    if 30 ≤ k then .bad false else
    (numR (bitsOf bs) p (dbits.getD k 0).toNat).bind fun y p =>
      if out.length < (dbases.getD k 0).toNat + y then .bad false else
      if most < out.length + ((lbases.getD v 0).toNat + x) then .bad true else
      .ok (copyR out ((dbases.getD k 0).toNat + y) ((lbases.getD v 0).toNat + x)) p by unfold matchR; rw [if_neg hv29])
  generalize matchR (bitsOf bs) most ds out v p = T at *
  have q1 := HTb.out.1 v hv'
  have q2 := HTb.out.2.1 v hv'
  have hlb := lb_bd v hv'
  obtain ⟨lb, hlb1⟩ : ∃ lb : Nat, lbases.getD v 0 = lb := ⟨(lbases.getD v 0).toNat, by omega⟩
  obtain ⟨lx, hlx1⟩ : ∃ lx : Nat, lbits.getD v 0 = lx := ⟨(lbits.getD v 0).toNat, by omega⟩
  rw [hlb1] at q1 hlb HTu
  rw [hlx1] at q2 hlb HTu
  simp only [Int.toNat_natCast] at HTu
  have HLb := Lib.hid hlb1
  clear hlb1 hlx1
  go_enter Tryd.func59, Tryd.ntmps59
  go_wp2
  refine wp_region_qs (fun j w' => (j ≤ 1 → w'.cell? ⟨1, v, none⟩ = some (.int .i64 (lb : Int))) ∧ (j ≤ 0 → w'.cell? ⟨2, v, none⟩ = some (.int .i64 (lx : Int)))) [(0, some 1), (1, some 1), (2, some 1), (3, some 0), (4, some 1), (5, some 1), (6, some 0), (7, none), (8, some 1), (9, some 1)] (by kernel_rfl) (by kernel_rfl) (by kernel_rfl) (by kernel_rfl) (by kernel_rfl) (fun _ _ _ _ _ h => h) ⟨fun _ => q1, fun _ => q2⟩ ?_
  simp only [List.map_cons, List.map_nil, List.getD_cons_succ, List.getD_cons_zero]
  (repeat (first | (refine qs_now (v := ?_) (by rfl) ?_ ?_; rotate_left 1; (· (intro w' hS; go_simp; (try (simp only [↓IntWalk.iteOmega]; go_simp)); (try simp (disch := omega) only [IntWalk.i64_in]); try with_reducible rfl)); simp only [Act.put, List.setIfInBounds_toArray, List.set_cons_zero, List.set_cons_succ]) | (refine qs_run (v := ?_) (by rfl) ?_ ?_; rotate_left 1; (· (intro j w' hS; go_simp; (try (simp only [↓IntWalk.iteOmega]; go_simp)); (try simp (disch := omega) only [IntWalk.i64_in]); try with_reducible rfl)); simp only [Act.put, List.setIfInBounds_toArray, List.set_cons_zero, List.set_cons_succ]) | (refine qs_mid (v := ?_) (by rfl) ?_ ?_; rotate_left 1; (· (intro j w' hj1 hj2 hS; go_simp; (try (simp only [↓IntWalk.iteOmega]; go_simp)); (try simp (disch := omega) only [IntWalk.i64_in]); try with_reducible rfl)); simp only [Act.put, List.setIfInBounds_toArray, List.set_cons_zero, List.set_cons_succ]) | (refine qs_skip (by rfl) ?_; simp only [Act.put, List.setIfInBounds_toArray, List.set_cons_zero, List.set_cons_succ])))
  refine qs_act ?_
  go_wp2_with fail
  have L0 := Lib.hid ((Below.refl w.heap.size w).drew)
  refine (number_any base s r bs p out (most : Int) 0 lx w.drew (H.out.below L0.out) HBy.out hl (by omega)).mono ?_
  rintro ev w1 ⟨x, p1, e1, rfl, hx, hs1, st1, tk1, k1⟩
  have H1 := Lib.hid hs1
  have S1 := Lib.hid ((StStep.of_below L0.out h5).trans st1)
  have T1 := Lib.hid (took_next (fun b => numR_bad) (.inr ⟨rfl, HTu.out⟩) tk1)
  have hx32 : x < 32 := Nat.lt_of_lt_of_le hx (Nat.pow_le_pow_right (n := 2) (i := lx) (j := 5) (by omega) (by omega))
  have TB1 := Lib.hid (HTb.out.step S1.out hs5 hr5 hbase)
  have HD1 := Lib.hid (H.out.dec S1.out HD.out)
  have q1' := TB1.out.1 v hv'
  rw [HLb.out] at q1'
  clear hs1 st1 tk1 k1 HTu q1 q2 hx
  go_wp2
  refine ⟨⟨fun _ => q1', fun h => absurd h (by omega)⟩, ?_⟩
  (repeat (first | (refine qs_now (v := ?_) (by rfl) ?_ ?_; rotate_left 1; (· (intro w' hS; go_simp; (try (simp only [↓IntWalk.iteOmega]; go_simp)); (try simp (disch := omega) only [IntWalk.i64_in]); try with_reducible rfl)); simp only [Act.put, List.setIfInBounds_toArray, List.set_cons_zero, List.set_cons_succ]) | (refine qs_run (v := ?_) (by rfl) ?_ ?_; rotate_left 1; (· (intro j w' hS; go_simp; (try (simp only [↓IntWalk.iteOmega]; go_simp)); (try simp (disch := omega) only [IntWalk.i64_in]); try with_reducible rfl)); simp only [Act.put, List.setIfInBounds_toArray, List.set_cons_zero, List.set_cons_succ]) | (refine qs_mid (v := ?_) (by rfl) ?_ ?_; rotate_left 1; (· (intro j w' hj1 hj2 hS; go_simp; (try (simp only [↓IntWalk.iteOmega]; go_simp)); (try simp (disch := omega) only [IntWalk.i64_in]); try with_reducible rfl)); simp only [Act.put, List.setIfInBounds_toArray, List.set_cons_zero, List.set_cons_succ]) | (refine qs_skip (by rfl) ?_; simp only [Act.put, List.setIfInBounds_toArray, List.set_cons_zero, List.set_cons_succ])))
  refine qs_nil ?_
  go_wp2_with fail
  refine (symbol_any base s r gd bs ds p1 out (most : Int) e1 w1 H1.out HD1.out hok HBy.out hl).mono ?_
  rintro ev w2 ⟨k, p2, e2, rfl, hk, hs2, st2, tk2⟩
  have H2 := Lib.hid hs2
  have S2 := Lib.hid (S1.out.trans st2)
  have T2 := Lib.hid (took_next (fun b => symR_bad) T1.out tk2)
  have TB2 := Lib.hid (TB1.out.step st2 hs5 hr5 hbase)
  have hk288 : k ≤ 288 := by have := len_of hok; omega
  clear hs2 st2 tk2 T1 q1' H1 S1 TB1 HD1
  by_cases hk30 : 30 ≤ k
  · have d2 : decide ((30 : Int) ≤ k) = true := by simp; omega
    go_wp2_with (go_at_call 32; refine (fail_any base s r bs p2 out (most : Int) e2 4 w2 H2.out).mono ?_; rintro ev w5 ⟨rfl, h5', s5, _⟩; have H5 := Lib.hid h5'; have S5 := Lib.hid (S2.out.trans s5); clear h5' s5)
    go_end0
    have he : (if e2 = 0 then (4 : Int) else e2) = 4 ∧ T = .bad false := by
      rcases T2.out with ⟨h, k⟩ | ⟨h, k⟩
      · rw [if_neg (by omega)]; exact ⟨h, k⟩
      · rw [if_pos hk30] at k
        rw [if_pos h]; exact ⟨rfl, k⟩
    exact ⟨p2, out, _, rfl, H5.out, S5.out, ho, by rw [he.1, he.2]; rfl⟩
  · have d2 : decide ((30 : Int) ≤ k) = false := by simp; omega
    rw [if_neg hk30] at T2
    have hk' : k < 30 := by omega
    have hkI : (k : Int) < 30 := by omega
    have q3 := TB2.out.2.2.1 k hk'
    have q4 := TB2.out.2.2.2.1 k hk'
    have hdb := db_bd k hk'
    obtain ⟨db, hdb1⟩ : ∃ db : Nat, dbases.getD k 0 = db := ⟨(dbases.getD k 0).toNat, by omega⟩
    obtain ⟨dx, hdx1⟩ : ∃ dx : Nat, dbits.getD k 0 = dx := ⟨(dbits.getD k 0).toNat, by omega⟩
    rw [hdb1] at q3 hdb T2
    rw [hdx1] at q4 hdb T2
    simp only [Int.toNat_natCast] at T2
    have HDb := Lib.hid hdb1
    clear hdb1 hdx1
    go_wp2
    refine wp_region_qs (fun j w' => (j ≤ 1 → w'.cell? ⟨3, k, none⟩ = some (.int .i64 (db : Int))) ∧ (j ≤ 0 → w'.cell? ⟨4, k, none⟩ = some (.int .i64 (dx : Int)))) [(0, some 1), (1, some 1), (2, some 1), (3, some 0), (4, some 1), (5, some 1), (6, some 0), (7, none), (8, some 1), (9, some 1)] (by kernel_rfl) (by kernel_rfl) (by kernel_rfl) (by kernel_rfl) (by kernel_rfl) (fun _ _ _ _ _ h => h) ⟨fun _ => q3, fun _ => q4⟩ ?_
    simp only [List.map_cons, List.map_nil, List.getD_cons_succ, List.getD_cons_zero]
    (repeat (first | (refine qs_now (v := ?_) (by rfl) ?_ ?_; rotate_left 1; (· (intro w' hS; go_simp; (try (simp only [↓IntWalk.iteOmega]; go_simp)); (try simp (disch := omega) only [IntWalk.i64_in]); try with_reducible rfl)); simp only [Act.put, List.setIfInBounds_toArray, List.set_cons_zero, List.set_cons_succ]) | (refine qs_run (v := ?_) (by rfl) ?_ ?_; rotate_left 1; (· (intro j w' hS; go_simp; (try (simp only [↓IntWalk.iteOmega]; go_simp)); (try simp (disch := omega) only [IntWalk.i64_in]); try with_reducible rfl)); simp only [Act.put, List.setIfInBounds_toArray, List.set_cons_zero, List.set_cons_succ]) | (refine qs_mid (v := ?_) (by rfl) ?_ ?_; rotate_left 1; (· (intro j w' hj1 hj2 hS; go_simp; (try (simp only [↓IntWalk.iteOmega]; go_simp)); (try simp (disch := omega) only [IntWalk.i64_in]); try with_reducible rfl)); simp only [Act.put, List.setIfInBounds_toArray, List.set_cons_zero, List.set_cons_succ]) | (refine qs_skip (by rfl) ?_; simp only [Act.put, List.setIfInBounds_toArray, List.set_cons_zero, List.set_cons_succ])))
    refine qs_act ?_
    go_wp2_with fail
    have L2 := Lib.hid ((Below.refl w2.heap.size w2).drew)
    have hb2 : base ≤ w2.heap.size := H2.out.2.2.2.2.1
    refine (number_any base s r bs p2 out (most : Int) e2 dx w2.drew (H2.out.below L2.out) HBy.out hl (by omega)).mono ?_
    rintro ev w3 ⟨y, p3, e3, rfl, hy, hs3, st3, tk3, k3⟩
    have H3 := Lib.hid hs3
    have S3 := Lib.hid (S2.out.trans ((StStep.of_below L2.out hb2).trans st3))
    have T3 := Lib.hid (took_next (fun b => numR_bad) T2.out tk3)
    have hy13 : y < 8192 := Nat.lt_of_lt_of_le hy (Nat.pow_le_pow_right (n := 2) (i := dx) (j := 13) (by omega) (by omega))
    have TB3 := Lib.hid ((TB2.out.step (StStep.of_below L2.out hb2) hs5 hr5 hbase).step st3 hs5 hr5 hbase)
    have q3' := TB3.out.2.2.1 k hk'
    rw [HDb.out] at q3'
    clear hs3 st3 tk3 k3 T2 q3 q4 hy H2 S2
    go_wp2
    refine ⟨⟨fun _ => q3', fun h => absurd h (by omega)⟩, ?_⟩
    (repeat (first | (refine qs_now (v := ?_) (by rfl) ?_ ?_; rotate_left 1; (· (intro w' hS; go_simp; (try (simp only [↓IntWalk.iteOmega]; go_simp)); (try simp (disch := omega) only [IntWalk.i64_in]); try with_reducible rfl)); simp only [Act.put, List.setIfInBounds_toArray, List.set_cons_zero, List.set_cons_succ]) | (refine qs_run (v := ?_) (by rfl) ?_ ?_; rotate_left 1; (· (intro j w' hS; go_simp; (try (simp only [↓IntWalk.iteOmega]; go_simp)); (try simp (disch := omega) only [IntWalk.i64_in]); try with_reducible rfl)); simp only [Act.put, List.setIfInBounds_toArray, List.set_cons_zero, List.set_cons_succ]) | (refine qs_mid (v := ?_) (by rfl) ?_ ?_; rotate_left 1; (· (intro j w' hj1 hj2 hS; go_simp; (try (simp only [↓IntWalk.iteOmega]; go_simp)); (try simp (disch := omega) only [IntWalk.i64_in]); try with_reducible rfl)); simp only [Act.put, List.setIfInBounds_toArray, List.set_cons_zero, List.set_cons_succ]) | (refine qs_skip (by rfl) ?_; simp only [Act.put, List.setIfInBounds_toArray, List.set_cons_zero, List.set_cons_succ])))
    refine qs_nil ?_
    obtain ⟨r1, r2, r3, r4, r5, r6, v3, r7, r8, r9⟩ := H3.out
    obtain ⟨A3, c3, rfl, _⟩ := own_slice r8
    have c1 := r7.cell (i := 1) (v := .slice A3 out.length c3) rfl
    clear r1 r7 r8 r9
    obtain ⟨far, hfarE⟩ : ∃ far : Nat, (far : Int) = (db : Int) + y := ⟨db + y, by omega⟩
    have hf1 : 1 ≤ far := by omega
    have hfe : db + y = far := by omega
    rw [hfe] at T3
    rw [← hfarE]
    obtain ⟨n, hnE⟩ : ∃ n : Nat, (n : Int) = (lb : Int) + x := ⟨lb + x, by omega⟩
    have hne : lb + x = n := by omega
    have hn300 : n ≤ 300 := by omega
    rw [hne] at T3
    rw [← hnE]
    clear hfarE hfe hnE hne HLb HDb q3' hlb hdb TB2 TB3 L0 L2 H HD HTb
    by_cases hfar : out.length < far
    · have hfarI : (out.length : Int) < (far : Int) := by omega
      go_wp2_with (first
        | (go_at_call 32; refine (fail_any base s r bs p3 out (most : Int) e3 4 w3 H3.out).mono ?_; rintro ev w5 ⟨rfl, h5', s5, _⟩; have H5 := Lib.hid h5'; have S5 := Lib.hid (S3.out.trans s5); clear h5' s5)
        | fail)
      have he5 : (if e3 = 0 then (4 : Int) else e3) = 4 ∧ T = .bad false := by
        rcases T3.out with ⟨h, k⟩ | ⟨h, k⟩
        · rw [if_neg (by omega)]; exact ⟨h, k⟩
        · rw [if_pos (by omega)] at k
          rw [if_pos h]; exact ⟨rfl, k⟩
      rw [he5.1] at H5
      have HT := Lib.hid he5.2
      clear he5 T3
      refine (room_any base s r bs p3 out (most : Int) 4 n w5 H5.out (by omega) (by omega)).mono ?_
      rintro ev w6 ⟨e6, rfl, h6', s6, he6⟩
      rw [if_neg (by omega)] at he6
      subst he6
      have H6 := Lib.hid h6'
      have S6 := Lib.hid (S5.out.trans s6)
      clear h6' s6 H5 S5 c1
      go_wp2
      go_end0
      exact ⟨p3, out, 4, rfl, H6.out, S6.out, ho, by rw [HT.out]; rfl⟩
    · have hfarI : ¬ (out.length : Int) < (far : Int) := by omega
      rw [if_neg hfar] at T3
      go_wp2_with fail
      refine (room_any base s r bs p3 out (most : Int) e3 n w3 H3.out (by omega) (by omega)).mono ?_
      rintro ev w6 ⟨e6, rfl, h6', s6, he6⟩
      have H6 := Lib.hid h6'
      have S6 := Lib.hid (S3.out.trans s6)
      clear h6' s6 H3 S3 c1
      rcases T3.out with ⟨he3, hT⟩ | ⟨he3, hT⟩
      · rw [he3, if_neg (by omega)] at he6
        subst he6
        go_wp2
        go_end0
        exact ⟨p3, out, 4, rfl, H6.out, S6.out, ho, by rw [hT]; rfl⟩
      · by_cases hlong : most < out.length + n
        · rw [he3, if_pos ⟨rfl, by omega⟩] at he6
          rw [if_pos hlong] at hT
          subst he6
          go_wp2
          go_end0
          exact ⟨p3, out, 3, rfl, H6.out, S6.out, ho, by rw [hT]; rfl⟩
        · rw [he3, if_neg (by omega)] at he6
          rw [if_neg hlong] at hT
          subst he6
          have HT := Lib.hid hT
          clear hT T3
          go_wp2
          go_loopw [52] (Mat base s r bs out most p3 far n w) (fun i _ => n - (intOf i).toNat)
          case atStart => exact ⟨0, by omega, rfl, H6.out, S6.out⟩
          case round =>
            clear H6 S6
            obtain ⟨i, hi, rfl, hs, hst⟩ := hrel
            have HS := Lib.hid hs
            have HSt := Lib.hid hst
            clear hs hst
            by_cases hlt : i < n
            · have hltI : (i : Int) < n := by omega
              obtain ⟨g1, g2, g3, g4, g5, g6, v, g7, g8, g9⟩ := HS.out
              have hol : (copyR out far i).length = out.length + i := copyR_len out far i
              have HBs := Lib.hid (show copyR out far (i + 1) = copyR out far i ++ [(copyR out far i).getD ((copyR out far i).length - far) 0] from rfl)
              generalize ho1 : copyR out far i = o1 at *
              obtain ⟨g, c, rfl, _, hglt⟩ := g8.form (by omega)
              have c1 := g7.cell (i := 1) (v := .slice (some ⟨g, 0, none⟩) o1.length c) rfl
              have HV := Lib.hid g7
              have cx := g8.cells (g := g) rfl (o1.length - far) (Value.int .u8 (o1.getD (o1.length - far) 0)) (by simp [show o1.length - far < o1.length by omega])
              rw [Addr.add_mid, Nat.zero_add] at cx
              have hxb : 0 ≤ o1.getD (o1.length - far) 0 ∧ o1.getD (o1.length - far) 0 < 256 := by
                refine g6 _ ?_
                rw [List.getD_eq_getElem?_getD, List.getElem?_eq_getElem (by omega)]
                exact List.getElem_mem _
              generalize hx0 : o1.getD (o1.length - far) 0 = x0 at *
              clear hx0 ho1
              have HOl := Lib.hid hol
              have H9 := Lib.hid g9
              have H8o := Lib.hid g8
              have hfo : (far : Int) ≤ o1.length := by omega
              have hlo : o1.length ≤ 65536 := by omega
              clear g1 g7 g8 g9 hol
              go_wp2
              refine wp_region_qs (fun j w' => (j ≤ 2 → w'.cell? ⟨s, 1, none⟩ = some (.slice (some ⟨g, 0, none⟩) o1.length c)) ∧ (j ≤ 1 → w'.cell? ⟨s, 1, none⟩ = some (.slice (some ⟨g, 0, none⟩) o1.length c)) ∧ (j ≤ 1 → w'.cell? ⟨g, o1.length - far, none⟩ = some (.int .u8 x0))) [(0, some 2), (1, some 2), (2, some 2), (3, some 2), (4, some 1), (5, some 2), (6, some 2), (7, some 2), (8, some 2), (9, some 2), (10, some 2), (11, some 2), (12, some 2), (13, some 2), (14, some 2), (15, some 2), (16, some 2), (17, some 1), (18, none), (19, none), (20, some 3), (21, some 2), (22, none)] (by kernel_rfl) (by kernel_rfl) (by kernel_rfl) (by kernel_rfl) (by kernel_rfl) (fun _ _ _ _ _ h => h) ⟨fun _ => c1, fun _ => c1, fun _ => cx⟩ ?_
              simp only [List.map_cons, List.map_nil, List.getD_cons_succ, List.getD_cons_zero]
              (repeat (first | (refine qs_now (v := ?_) (by rfl) ?_ ?_; rotate_left 1; (· (intro w' hS; go_simp; (try (simp only [↓IntWalk.iteOmega]; go_simp)); (try simp (disch := omega) only [IntWalk.i64_in]); try with_reducible rfl)); simp only [Act.put, List.setIfInBounds_toArray, List.set_cons_zero, List.set_cons_succ]) | (refine qs_run (v := ?_) (by rfl) ?_ ?_; rotate_left 1; (· (intro j w' hS; go_simp; (try (simp only [↓IntWalk.iteOmega]; go_simp)); (try simp (disch := omega) only [IntWalk.i64_in]); try with_reducible rfl)); simp only [Act.put, List.setIfInBounds_toArray, List.set_cons_zero, List.set_cons_succ]) | (refine qs_mid (v := ?_) (by rfl) ?_ ?_; rotate_left 1; (· (intro j w' hj1 hj2 hS; go_simp; (try (simp only [↓IntWalk.iteOmega]; go_simp)); (try simp (disch := omega) only [IntWalk.i64_in]); try with_reducible rfl)); simp only [Act.put, List.setIfInBounds_toArray, List.set_cons_zero, List.set_cons_succ]) | (refine qs_skip (by rfl) ?_; simp only [Act.put, List.setIfInBounds_toArray, List.set_cons_zero, List.set_cons_succ])))
              refine qs_act ?_
              go_wp2
              obtain ⟨w8, hw8⟩ : ∃ w8, w8 = (wr.alloc (.cells #[.int .u8 x0] 5)).drew := ⟨_, rfl⟩
              rw [← hw8]
              have L8 := Lib.hid (show Below wr.heap.size wr w8 by rw [hw8]; exact ((Below.refl _ _).alloc (Nat.le_refl _) _).drew)
              have S8 := Lib.hid (show Src w8 1 (.slice (some ⟨wr.heap.size, 0, none⟩) 1 1) 1 [.int .u8 x0] by rw [hw8]; exact src_u8 wr _ _)
              clear hw8
              have B8 := Lib.hid (HV.out.below L8.out HV.out.lt)
              have O8 := Lib.hid (own_below H8o.out L8.out)
              refine ⟨⟨fun _ => B8.out.cell (i := 1) rfl, fun _ => B8.out.cell (i := 1) rfl, fun _ => (L8.out.cell (p := ⟨g, _, none⟩) hglt).trans cx⟩, ?_⟩
              (repeat (first | (refine qs_now (v := ?_) (by rfl) ?_ ?_; rotate_left 1; (· (intro w' hS; go_simp; (try (simp only [↓IntWalk.iteOmega]; go_simp)); (try simp (disch := omega) only [IntWalk.i64_in]); try with_reducible rfl)); simp only [Act.put, List.setIfInBounds_toArray, List.set_cons_zero, List.set_cons_succ]) | (refine qs_run (v := ?_) (by rfl) ?_ ?_; rotate_left 1; (· (intro j w' hS; go_simp; (try (simp only [↓IntWalk.iteOmega]; go_simp)); (try simp (disch := omega) only [IntWalk.i64_in]); try with_reducible rfl)); simp only [Act.put, List.setIfInBounds_toArray, List.set_cons_zero, List.set_cons_succ]) | (refine qs_mid (v := ?_) (by rfl) ?_ ?_; rotate_left 1; (· (intro j w' hj1 hj2 hS; go_simp; (try (simp only [↓IntWalk.iteOmega]; go_simp)); (try simp (disch := omega) only [IntWalk.i64_in]); try with_reducible rfl)); simp only [Act.put, List.setIfInBounds_toArray, List.set_cons_zero, List.set_cons_succ]) | (refine qs_skip (by rfl) ?_; simp only [Act.put, List.setIfInBounds_toArray, List.set_cons_zero, List.set_cons_succ])))
              refine qs_act ?_
              refine app_src rfl (.tmp 58) (.tmp 72) 22 rfl 0 5 _ 1 1 Tryd.underlying22 infoByte rfl (by omega) _ o1.length _ rfl O8.out _ 1 _ rfl S8.out (by simp [Value.oneCell']) (by omega) (by omega) (Nat.zero_le _) ?_
              intro v9 w9 ho9 hg9 hor9
              obtain ⟨A9', c9, hv9, _⟩ := own_slice ho9
              subst hv9
              have hP := str_push (v9 := .slice A9' (o1.length + 1) c9) (x := x0) HS.out HV.out L8.out hg9 hor9 (by simpa using ho9) hxb
              have f9 := hP.2.2.free 1
              have d9 := hP.2.2.cell (i := 1) rfl
              have HP := Lib.hid hP
              clear ho9 hg9 hor9 hP
              refine wpList_nil ?_
              refine ⟨⟨fun _ => d9, fun h => absurd h (by omega), fun h => absurd h (by omega)⟩, ?_⟩
              (repeat (first | (refine qs_now (v := ?_) (by rfl) ?_ ?_; rotate_left 1; (· (intro w' hS; go_simp; (try (simp only [↓IntWalk.iteOmega]; go_simp)); (try simp (disch := omega) only [IntWalk.i64_in]); try with_reducible rfl)); simp only [Act.put, List.setIfInBounds_toArray, List.set_cons_zero, List.set_cons_succ]) | (refine qs_run (v := ?_) (by rfl) ?_ ?_; rotate_left 1; (· (intro j w' hS; go_simp; (try (simp only [↓IntWalk.iteOmega]; go_simp)); (try simp (disch := omega) only [IntWalk.i64_in]); try with_reducible rfl)); simp only [Act.put, List.setIfInBounds_toArray, List.set_cons_zero, List.set_cons_succ]) | (refine qs_mid (v := ?_) (by rfl) ?_ ?_; rotate_left 1; (· (intro j w' hj1 hj2 hS; go_simp; (try (simp only [↓IntWalk.iteOmega]; go_simp)); (try simp (disch := omega) only [IntWalk.i64_in]); try with_reducible rfl)); simp only [Act.put, List.setIfInBounds_toArray, List.set_cons_zero, List.set_cons_succ]) | (refine qs_skip (by rfl) ?_; simp only [Act.put, List.setIfInBounds_toArray, List.set_cons_zero, List.set_cons_succ])))
              refine qs_act ?_
              go_wp2
              refine ⟨⟨fun h => absurd h (by omega), fun h => absurd h (by omega), fun h => absurd h (by omega)⟩, ?_⟩
              refine qs_nil ?_
              go_wp2
              go_roundw
              case rel =>
                refine ⟨i + 1, by omega, by go_num, ?_, HSt.out.trans HP.out.2.1⟩
                rw [HBs.out]
                exact HP.out.1
              case measure => simp [intOf]; omega
            · obtain rfl : i = n := by omega
              go_wp2
              go_end0
              exact ⟨_, _, 0, rfl, HS.out, HSt.out, by rw [copyR_len]; omega, by rw [HT.out]; exact ⟨rfl, rfl, rfl⟩⟩
end Go.Proofs.YtlhaehefhhcgaaaDoor
namespace Go.Proofs.YtlhaehefhhcgaaaDoor
open Go.RowKit
set_option linter.unusedVariables false

theorem matchR_mono {bt ds out a : List Int} {most v p q : Nat} (hp : p ≤ bt.length) (h : matchR bt most ds out v p = .ok a q) : p ≤ q := by
  unfold matchR at h
  split at h
  · cases h
  rcases h1 : numR bt p (lbits.getD v 0).toNat with ⟨x, p1⟩ | b
  · rw [h1] at h
    simp only [Res.bind] at h
    obtain ⟨e1, e2, _⟩ := numR_ok h1
    rcases h2 : symR bt ds p1 with ⟨k, p2⟩ | b
    · rw [h2] at h
      simp only at h
      obtain ⟨f1, f2, _⟩ := symR_ok (by omega) h2
      split at h
      · cases h
      rcases h3 : numR bt p2 (dbits.getD k 0).toNat with ⟨y, p3⟩ | b
      · rw [h3] at h
        simp only at h
        obtain ⟨g1, g2, _⟩ := numR_ok h3
        split at h
        · cases h
        split at h
        · cases h
        injection h with _ h
        omega
      · rw [h3] at h; cases h
    · rw [h2] at h; cases h
  · rw [h1] at h; cases h

def Cod (base s r gx gy : Nat) (bs zs ds : List Int) (most : Nat) (T : Res (List Int)) (w : World) (k : Nat) (wr : World) : Prop :=
  ∃ out p e, StrOk wr base s r bs p out (most : Int) e ∧ StStep w wr base s r ∧ out.length ≤ most ∧ TabsOk wr ∧ DecOk wr gx zs ∧ DecOk wr gy ds ∧
    ((e = 0 ∧ T = symsR (bitsOf bs) most zs ds k out p ∧ 8 * bs.length + 1 ≤ k + p) ∨ (∃ b, e = errOf b ∧ T = .bad b))
def CodE (base s r : Nat) (bs out : List Int) (p most : Nat) (w : World) (k : Nat) (wr : World) : Prop := StrOk wr base s r bs p out (most : Int) 4 ∧ StStep w wr base s r
theorem errOf_ne (b : Bool) : errOf b ≠ 0 := by cases b <;> decide

set_option maxHeartbeats 1600000 in
theorem coded_any (base s r : Nat) (bs zs ds : List Int) (p : Nat) (out : List Int) (most : Nat) (A B : Option Addr) (n m ca cb : Nat) (w : World) (h : StrOk w base s r bs p out (most : Int) 0) (hz : RdI .i64 w A n zs) (hd : RdI .i64 w B m ds) (hn : n ≤ 1000) (hm2 : m ≤ 1000)
    (ht : TabsOk w) (hs5 : 5 ≤ s) (hr5 : 5 ≤ r) (hB : Bytes bs) (hl : bs.length ≤ 1000000000) (hm : most ≤ 65536) (ho : out.length ≤ most) :
    Calls Tryd.prog 29 #[.pointer (some ⟨s, 0, none⟩), .slice A n ca, .slice B m cb] w (VoidPost base s r bs most (codedR (bitsOf bs) most zs ds out p) w) := by
  have H := Lib.hid h
  have HZ := Lib.hid hz
  have HDs := Lib.hid hd
  have HTb := Lib.hid ht
  have HBy := Lib.hid hB
  obtain ⟨_, h2, h3, h4, h5, h6, _⟩ := h
  have hbase : 5 ≤ base := by omega
  clear hz hd ht hB
  go_enter Tryd.func29, Tryd.ntmps29
  go_wp2_with fail
  refine (new_any zs A n ca w HZ.out (by omega)).mono ?_
  rintro ev w1 ⟨hx, hb1⟩
  have L1 := Lib.hid hb1
  have HX := Lib.hid hx
  clear hx hb1
  rcases HX.out with ⟨hx0, rfl⟩ | ⟨hx0, gx, rfl, hgx, hdx⟩
  all_goals
    go_wp2_with fail
    refine (new_any ds B m cb w1 (HDs.out.below L1.out) (by omega)).mono ?_
    rintro ev w2 ⟨hy, hb2⟩
    have L2 := Lib.hid (below_chain L1.out hb2)
    have H2 := Lib.hid (H.out.below L2.out)
    have S2 := Lib.hid (StStep.of_below (s := s) (r := r) L2.out h5)
    have HY := Lib.hid hy
    have HB2 := Lib.hid hb2
    clear hy hb2
  · have HT := Lib.hid (show codedR (bitsOf bs) most zs ds out p = .bad false by unfold codedR; rw [if_neg (by rw [hx0]; simp)])
    rcases HY.out with ⟨hy0, rfl⟩ | ⟨hy0, gy, rfl, hgy, hdy⟩
    all_goals
      clear HX HY
      go_wp2_with (go_at_call 32; refine (fail_any base s r bs p out (most : Int) 0 4 w2 H2.out).mono ?_; rintro ev w5 ⟨rfl, h5', s5, _⟩; have H5 := Lib.hid h5'; have S5 := Lib.hid (S2.out.trans s5); clear h5' s5)
      go_loopg [] 0 (CodE base s r bs out p most w)
      case atStart => exact ⟨H5.out, S5.out⟩
      case round =>
        clear H5 S5
        have HR := Lib.hid hrel
        obtain ⟨⟨_, _, _, _, _, _, vv, q7, _, _⟩, _⟩ := hrel
        have c3 := q7.cell (i := 3) (v := .int .i64 4) rfl
        clear q7
        go_wp2
        go_end0
        exact ⟨p, out, 4, rfl, HR.out.1, HR.out.2, ho, by rw [HT.out]; rfl⟩
  · rcases HY.out with ⟨hy0, rfl⟩ | ⟨hy0, gy, rfl, hgy, hdy⟩
    · have HT := Lib.hid (show codedR (bitsOf bs) most zs ds out p = .bad false by unfold codedR; rw [if_neg (by rw [hy0]; simp)])
      clear HX HY
      go_wp2_with (go_at_call 32; refine (fail_any base s r bs p out (most : Int) 0 4 w2 H2.out).mono ?_; rintro ev w5 ⟨rfl, h5', s5, _⟩; have H5 := Lib.hid h5'; have S5 := Lib.hid (S2.out.trans s5); clear h5' s5)
      go_loopg [] 0 (CodE base s r bs out p most w)
      case atStart => exact ⟨H5.out, S5.out⟩
      case round =>
        clear H5 S5
        have HR := Lib.hid hrel
        obtain ⟨⟨_, _, _, _, _, _, vv, q7, _, _⟩, _⟩ := hrel
        have c3 := q7.cell (i := 3) (v := .int .i64 4) rfl
        clear q7
        go_wp2
        go_end0
        exact ⟨p, out, 4, rfl, HR.out.1, HR.out.2, ho, by rw [HT.out]; rfl⟩
    · have HT := Lib.hid (show codedR (bitsOf bs) most zs ds out p = symsR (bitsOf bs) most zs ds (8 * bs.length + 1) out p by unfold codedR; rw [if_pos ⟨hx0, hy0⟩, bitsOf_len])
      have DX := Lib.hid (hdx.below HB2.out)
      have DY := Lib.hid hdy
      have TB2 := Lib.hid (HTb.out.below L2.out)
      clear HX HY hdx hdy HTb HB2 H HZ HDs
      generalize codedR (bitsOf bs) most zs ds out p = T at *
      go_wp2
      go_loopg [] (8 * bs.length + 1) (Cod base s r gx gy bs zs ds most T w)
      case atStart => exact ⟨out, p, 0, H2.out, S2.out, ho, TB2.out, DX.out, DY.out, .inl ⟨rfl, HT.out, by omega⟩⟩
      case round =>
        clear H2 S2 TB2 DX DY HT L1 L2
        obtain ⟨o1, p1, e1, hs1, st1, ho1, tb1, dx1, dy1, hT⟩ := hrel
        have H1 := Lib.hid hs1
        have S1 := Lib.hid st1
        have TB1 := Lib.hid tb1
        have DX1 := Lib.hid dx1
        have DY1 := Lib.hid dy1
        have HT := Lib.hid hT
        obtain ⟨_, p1l, _, _, _, _, vv, q7, _, _⟩ := hs1
        have c3 := q7.cell (i := 3) (v := .int .i64 e1) rfl
        clear st1 tb1 dx1 dy1 hT q7
        rcases HT.out with ⟨rfl, hT, hk⟩ | ⟨b, rfl, hT⟩
        · obtain ⟨f, rfl⟩ : ∃ f, gk = f + 1 := ⟨gk - 1, by omega⟩
          have HT' := Lib.hid (show T = (symR (bitsOf bs) zs p1).bind fun s p =>
            if s = 256 then .ok o1 p else
            if 256 < s then (matchR (bitsOf bs) most ds o1 (s - 257) p).bind fun out p => symsR (bitsOf bs) most zs ds f out p else
            if most < o1.length + 1 then .bad true else symsR (bitsOf bs) most zs ds f (o1 ++ [(s : Int)]) p from hT)
          clear hT HT
          go_wp2_with fail
          refine (symbol_any base s r gx bs zs p1 o1 (most : Int) 0 wr H1.out DX1.out hx0 HBy.out hl).mono ?_
          rintro ev w2 ⟨v, p2, e2, rfl, hv, hs2, st2, tk2⟩
          have hv288 : v ≤ 288 := by have := len_of hx0; omega
          have H2 := Lib.hid hs2
          have S2 := Lib.hid (S1.out.trans st2)
          have TB2 := Lib.hid (TB1.out.step st2 hs5 hr5 hbase)
          have DX2 := Lib.hid (H1.out.dec st2 DX1.out)
          have DY2 := Lib.hid (H1.out.dec st2 DY1.out)
          obtain ⟨_, p2l, _, _, h5', _, vv, q7, q8, _⟩ := hs2
          have c3' := q7.cell (i := 3) (v := .int .i64 e2) rfl
          have TK := Lib.hid (took_or tk2)
          clear st2 tk2 q7 q8 H1 S1 TB1 DX1 DY1 c3
          rcases TK.out with ⟨hsy, rfl⟩ | ⟨b, hsy, _, he2⟩
          · have hpp : p1 < p2 := (symR_ok (by rw [bitsOf_len]; exact p1l) hsy).1
            rw [hsy] at HT'
            simp only [Res.bind] at HT'
            clear TK hsy
            by_cases h256 : v = 256
            · subst h256
              rw [if_pos rfl] at HT'
              go_wp2
              go_end0
              exact ⟨p2, o1, 0, rfl, H2.out, S2.out, ho1, by rw [HT'.out]; exact ⟨rfl, rfl, rfl⟩⟩
            · rw [if_neg h256] at HT'
              have h256I : ((v : Int) == 256) = false := by simp; omega
              by_cases hgt : 256 < v
              · rw [if_pos hgt] at HT'
                have hgtI : (256 : Int) < (v : Int) := by omega
                obtain ⟨u, hu⟩ : ∃ u : Nat, (u : Int) = (v : Int) - 256 - 1 := ⟨v - 257, by omega⟩
                have hu' : v - 257 = u := by omega
                have HU := Lib.hid hu
                have hul : u ≤ 1000 := by omega
                rw [hu'] at HT'
                clear hu hu'
                go_wp2_with fail
                rw [← HU.out]
                refine (match_any base s r gy bs ds p2 o1 most u w2 H2.out DY2.out hy0 TB2.out hs5 hr5 HBy.out hl hm ho1 hul).mono ?_
                rintro ev w3 ⟨p3, o3, e3, rfl, hs3, st3, ho3, ag3⟩
                have H3 := Lib.hid hs3
                have S3 := Lib.hid (S2.out.trans st3)
                have TB3 := Lib.hid (TB2.out.step st3 hs5 hr5 hbase)
                have DX3 := Lib.hid (H2.out.dec st3 DX2.out)
                have DY3 := Lib.hid (H2.out.dec st3 DY2.out)
                have HR := Lib.hid (show (e3 = 0 ∧ T = symsR (bitsOf bs) most zs ds f o3 p3 ∧ 8 * bs.length + 1 ≤ f + p3) ∨ (∃ b, e3 = errOf b ∧ T = .bad b) by
                  have h1 := HT'.out
                  rcases hm1 : matchR (bitsOf bs) most ds o1 u p2 with ⟨a, q⟩ | b
                  · rw [hm1] at h1 ag3
                    obtain ⟨rfl, rfl, rfl⟩ := ag3
                    have := matchR_mono (by rw [bitsOf_len]; exact p2l) hm1
                    exact .inl ⟨rfl, h1, by omega⟩
                  · rw [hm1] at h1 ag3
                    exact .inr ⟨b, ag3, h1⟩)
                clear hs3 st3 ag3 H2 S2 TB2 DX2 DY2 HU HT' c3'
                go_wp2
                go_roundg f
                case measure => omega
                case rel => exact ⟨o3, p3, e3, H3.out, S3.out, ho3, TB3.out, DX3.out, DY3.out, HR.out⟩
              · rw [if_neg hgt] at HT'
                have hgtI : ¬ (256 : Int) < (v : Int) := by omega
                go_wp2_with fail
                refine (room_any base s r bs p2 o1 (most : Int) 0 1 w2 H2.out (by omega) (by omega)).mono ?_
                rintro ev w3 ⟨e3, rfl, hs3, st3, he3⟩
                have H3 := Lib.hid hs3
                have S3 := Lib.hid (S2.out.trans st3)
                have TB3 := Lib.hid (TB2.out.step st3 hs5 hr5 hbase)
                have DX3 := Lib.hid (H2.out.dec st3 DX2.out)
                have DY3 := Lib.hid (H2.out.dec st3 DY2.out)
                clear hs3 st3 H2 S2 TB2 DX2 DY2 c3'
                by_cases hlong : most < o1.length + 1
                · rw [if_pos ⟨rfl, by omega⟩] at he3
                  rw [if_pos hlong] at HT'
                  subst he3
                  go_wp2
                  go_roundg f
                  case measure => omega
                  case rel => exact ⟨o1, p2, 3, H3.out, S3.out, ho1, TB3.out, DX3.out, DY3.out, .inr ⟨true, rfl, HT'.out⟩⟩
                · rw [if_neg (by omega)] at he3
                  rw [if_neg hlong] at HT'
                  subst he3
                  obtain ⟨_, _, _, _, h5'', _, vv, q7, q8, _⟩ := H3.out
                  obtain ⟨A3, c3, rfl, _⟩ := own_slice q8
                  have cc1 := q7.cell (i := 1) (v := .slice A3 o1.length c3) rfl
                  have HV := Lib.hid q7
                  have H8o := Lib.hid q8
                  clear q7 q8
                  have hv256 : v < 256 := by omega
                  have hvI : (v : Int) < 256 := by omega
                  have hxb : 0 ≤ (v : Int) ∧ (v : Int) < 256 := by omega
                  go_wp2_with (refine app_src rfl (.tmp 55) (.tmp 58) 22 rfl 0 5 _ 1 1 Tryd.underlying22 infoByte rfl (by omega) _ o1.length _ rfl (H8o.out.alloc _) _ 1 [Value.int .u8 (v : Int)] rfl (src_u8 _ _ _) (by simp [Value.oneCell']) (by omega) (by omega) (Nat.zero_le _) ?_; intro v9 w9 ho9 hg9 hor9; obtain ⟨A9, c9, hv9, _⟩ := own_slice ho9; subst hv9; have hP := str_push (v9 := .slice A9 (o1.length + 1) c9) (x := (v : Int)) H3.out HV.out ((Below.refl _ _).alloc (Nat.le_refl _) _) hg9 hor9 (by simpa using ho9) hxb; have f9 := hP.2.2.free 1; have d9 := hP.2.2.cell (i := 1) rfl; have HP := Lib.hid hP; clear ho9 hg9 hor9 hP)
                  go_roundg f
                  case measure => omega
                  case rel =>
                    have hst := HP.out.2.1
                    exact ⟨o1 ++ [(v : Int)], p2, 0, HP.out.1, S3.out.trans hst, by simp; omega, TB3.out.step hst hs5 hr5 hbase, H3.out.dec hst DX3.out, H3.out.dec hst DY3.out, .inl ⟨rfl, HT'.out, by omega⟩⟩
          · rw [if_pos rfl] at he2
            rw [hsy] at HT'
            simp only [Res.bind] at HT'
            have he := errOf_ne b
            have he' : (errOf b != 0) = true := by simpa using he
            generalize hE : errOf b = E at *
            subst he2
            have HE := Lib.hid hE
            clear hE TK hsy he
            go_wp2
            go_end0
            exact ⟨p2, o1, e2, rfl, H2.out, S2.out, ho1, by rw [HT'.out]; exact HE.out.symm⟩
        · have hT' := Lib.hid hT
          have he := errOf_ne b
          have he' : (errOf b == 0) = false := by simpa using he
          clear hT HT
          generalize hE : errOf b = E at *
          have HE := Lib.hid hE
          clear hE
          go_wp2
          go_end0
          exact ⟨p1, o1, E, rfl, H1.out, S1.out, ho1, by rw [hT'.out]; exact HE.out.symm⟩
end Go.Proofs.YtlhaehefhhcgaaaDoor
namespace Go.Proofs.YtlhaehefhhcgaaaDoor
open Go.RowKit
set_option linter.unusedVariables false

theorem own_off {w : World} {g : Nat} {t e : TypeId} {cs : Array Value} {base size n : Nat} {v : Value} {xs : List Value} (hb : Blk w g t cs) (h : w.ownsRow base e size v n xs) (ht : t ≠ e) : some g ≠ v.ownBlock := by
  rcases h.2 with ⟨rfl, _⟩ | ⟨g', cap, cur, rfl, _, hg, _⟩
  · simp [Value.ownBlock]
  · intro he
    simp only [Value.ownBlock, Option.some.injEq] at he
    subst he
    unfold Blk at hb
    rw [hg] at hb
    injection hb with hb
    injection hb with _ e
    exact ht e.symm
theorem own_base {w : World} {base : Nat} {e : TypeId} {size n : Nat} {v : Value} {xs : List Value} (h : w.ownsRow base e size v n xs) {k : Nat} (hk : v.ownBlock = some k) : base ≤ k := by
  rcases h.2 with ⟨rfl, _⟩ | ⟨g', cap, cur, rfl, hb, _⟩
  · cases hk
  · simp only [Value.ownBlock, Option.some.injEq] at hk
    omega
def lenOf : Value → Nat
  | .slice _ n _ => n
  | _ => 0
/-- A row that grows by one number again and again. -/
def FxI (w : World) (l0 : List Int) (N : Nat) (v : Int) (g k : Nat) (sv : Value) (wr : World) : Prop :=
  ∃ j A c, sv = .slice A (l0.length + j) c ∧ l0.length + j ≤ N ∧ N ≤ l0.length + j + k ∧ wr.ownsRow w.heap.size 3 1 sv (l0.length + j) ((l0 ++ List.replicate j v).map (Value.int .i64)) ∧ Below w.heap.size w wr ∧ Blk wr g 111 #[.int .i64 (N : Int), .int .i64 v]
def FxD (w : World) (sv0 : Value) (g0 k : Nat) (sv : Value) (wr : World) : Prop :=
  ∃ j A c, sv = .slice A j c ∧ j ≤ 32 ∧ 32 ≤ j + k ∧ wr.ownsRow w.heap.size 3 1 sv j ((List.replicate j (5 : Int)).map (Value.int .i64)) ∧ Below w.heap.size w wr ∧ wr.ownsRow w.heap.size 3 1 sv0 288 (fixedL.map (Value.int .i64)) ∧ sv.ownBlock ≠ some g0 ∧ g0 < wr.heap.size
def fxPre : Nat → List Int
  | 0 => []
  | 1 => List.replicate 144 8
  | 2 => List.replicate 144 8 ++ List.replicate 112 9
  | 3 => List.replicate 144 8 ++ List.replicate 112 9 ++ List.replicate 24 7
  | _ => fixedL
def fxN : Nat → Nat
  | 0 => 0
  | 1 => 144
  | 2 => 256
  | 3 => 280
  | _ => 288
theorem fx_len (i : Nat) (hi : i ≤ 4) : (fxPre i).length = fxN i := by
  obtain rfl | rfl | rfl | rfl | rfl : i = 0 ∨ i = 1 ∨ i = 2 ∨ i = 3 ∨ i = 4 := by omega
  all_goals (simp only [fxPre, fixedL, fxN, List.length_append, List.length_replicate, List.length_nil])
def FxO (w : World) (k : Nat) (sv iv : Value) (wr : World) : Prop :=
  ∃ i A c, iv = .int .i64 ((i : Nat) : Int) ∧ i + k = 4 ∧ sv = .slice A (fxPre i).length c ∧ wr.ownsRow w.heap.size 3 1 sv (fxPre i).length ((fxPre i).map (Value.int .i64)) ∧ Below w.heap.size w wr
def FixedPost (w : World) (ev : Ending) (w' : World) : Prop :=
  ∃ A B ca cb, ev = .returned (.tuple #[.slice A 288 ca, .slice B 32 cb]) ∧ RdI .i64 w' A 288 fixedL ∧ RdI .i64 w' B 32 fixedD ∧ Below w.heap.size w w'
theorem fxIx0 (w : World) : (Instr.index 112 (.agg #[.int .i64 144, .int .i64 8, .int .i64 256, .int .i64 9, .int .i64 280, .int .i64 7, .int .i64 288, .int .i64 8]) (.int .i64 0)).run Tryd.prog w = .ok (.agg #[.int .i64 144, .int .i64 8]) w := by kernel_rfl
theorem fxIx1 (w : World) : (Instr.index 112 (.agg #[.int .i64 144, .int .i64 8, .int .i64 256, .int .i64 9, .int .i64 280, .int .i64 7, .int .i64 288, .int .i64 8]) (.int .i64 1)).run Tryd.prog w = .ok (.agg #[.int .i64 256, .int .i64 9]) w := by kernel_rfl
theorem fxIx2 (w : World) : (Instr.index 112 (.agg #[.int .i64 144, .int .i64 8, .int .i64 256, .int .i64 9, .int .i64 280, .int .i64 7, .int .i64 288, .int .i64 8]) (.int .i64 2)).run Tryd.prog w = .ok (.agg #[.int .i64 280, .int .i64 7]) w := by kernel_rfl
theorem fxIx3 (w : World) : (Instr.index 112 (.agg #[.int .i64 144, .int .i64 8, .int .i64 256, .int .i64 9, .int .i64 280, .int .i64 7, .int .i64 288, .int .i64 8]) (.int .i64 3)).run Tryd.prog w = .ok (.agg #[.int .i64 288, .int .i64 8]) w := by kernel_rfl
set_option maxHeartbeats 1600000 in
theorem fixed_any (w : World) : Calls Tryd.prog 30 #[] w (FixedPost w) := by
  have i0 := fxIx0
  have i1 := fxIx1
  have i2 := fxIx2
  have i3 := fxIx3
  go_enter Tryd.func30, Tryd.ntmps30
  go_wp2
  go_loopg [0, 9] 4 (FxO w)
  case atStart => exact ⟨0, none, 0, rfl, by omega, rfl, ⟨rfl, .inl ⟨rfl, rfl⟩⟩, Below.refl _ _⟩
  case round =>
    obtain ⟨i, A, c, rfl, hi, rfl, ho, hb⟩ := hrel
    obtain ⟨wo, rfl⟩ : ∃ wo : World, wo = wr := ⟨_, rfl⟩
    have HO := Lib.hid ho
    have HB := Lib.hid hb
    clear ho hb
    have hlen := fx_len i (by omega)
    generalize hl0 : fxPre i = l0 at *
    have HL := Lib.hid hl0
    have HLn := Lib.hid hlen
    clear hl0 hlen
    by_cases hi4 : i < 4
    · obtain rfl | rfl | rfl | rfl : i = 0 ∨ i = 1 ∨ i = 2 ∨ i = 3 := by omega
      ·
        go_wp2
        go_loopg [0] 288 (FxI w l0 144 8 wo.heap.size)
        case atStart =>
          refine ⟨0, _, _, rfl, by rw [HLn.out]; decide, by omega, ?_, HB.out.alloc HB.out.size _, Blk.made _ _ _⟩
          simpa using own_below HO.out ((Below.refl _ _).alloc (Nat.le_refl _) _)
        case round =>
          clear HO HB
          obtain ⟨j, A1, c1, rfl, hj, hk, ho1, hb1, hx1⟩ := hrel
          have HO := Lib.hid ho1
          have HB := Lib.hid hb1
          have HX := Lib.hid hx1
          have x0 := hx1.cell (i := 0) (v := .int .i64 144) rfl
          have x1 := hx1.cell (i := 1) (v := .int .i64 8) rfl
          clear ho1 hb1 hx1
          by_cases hlt : l0.length + j < 144
          · have hltI : (l0.length : Int) + j < 144 := by omega
            go_wp2_with (refine app_int rfl (.tmp 17) (.tmp 20) rfl w.heap.size _ (l0.length + j) _ wr.heap.size _ 3 rfl (HO.out.alloc _) rfl (Blk.made _ _ _) (by omega) (by have := HB.out.size; simp; omega) ?_; intro g6 cap6 w6 ho6 hg6 hor6 hlt6; have HO6 := Lib.hid ho6; have HG6 := Lib.hid hg6; clear ho6 hg6 hor6 hlt6)
            go_roundg (gk - 1)
            case rel =>
              refine ⟨j + 1, _, _, rfl, by omega, by omega, ?_, ?_, ?_⟩
              · have := HO6.out
                rw [List.append_assoc, ← List.replicate_succ'] at this
                exact this
              · exact (HB.out.alloc HB.out.size _).grown HG6.out (by have := HB.out.size; simp; omega) (fun k hk => own_base HO.out hk)
              · exact (HX.out.alloc _).grown HG6.out (own_off HX.out HO.out (by decide))
            case measure => omega
          · have hltI : ¬ (l0.length : Int) + j < 144 := by omega
            obtain rfl : j = 144 - l0.length := by omega
            go_wp2
            go_roundg (4 - (0 + 1))
            case rel =>
              have hL1 : fxPre (0 + 1) = l0 ++ List.replicate (144 - l0.length) 8 := by rw [HLn.out, ← HL.out]; rfl
              have hL2 : l0.length + (144 - l0.length) = (fxPre (0 + 1)).length := by rw [hL1]; simp
              refine ⟨0 + 1, A1, c1, by go_num, by omega, by rw [← hL2], ?_, HB.out⟩
              rw [← hL2, hL1]; exact HO.out
            case measure => omega
      ·
        go_wp2
        go_loopg [0] 288 (FxI w l0 256 9 wo.heap.size)
        case atStart =>
          refine ⟨0, _, _, rfl, by rw [HLn.out]; decide, by omega, ?_, HB.out.alloc HB.out.size _, Blk.made _ _ _⟩
          simpa using own_below HO.out ((Below.refl _ _).alloc (Nat.le_refl _) _)
        case round =>
          clear HO HB
          obtain ⟨j, A1, c1, rfl, hj, hk, ho1, hb1, hx1⟩ := hrel
          have HO := Lib.hid ho1
          have HB := Lib.hid hb1
          have HX := Lib.hid hx1
          have x0 := hx1.cell (i := 0) (v := .int .i64 256) rfl
          have x1 := hx1.cell (i := 1) (v := .int .i64 9) rfl
          clear ho1 hb1 hx1
          by_cases hlt : l0.length + j < 256
          · have hltI : (l0.length : Int) + j < 256 := by omega
            go_wp2_with (refine app_int rfl (.tmp 17) (.tmp 20) rfl w.heap.size _ (l0.length + j) _ wr.heap.size _ 3 rfl (HO.out.alloc _) rfl (Blk.made _ _ _) (by omega) (by have := HB.out.size; simp; omega) ?_; intro g6 cap6 w6 ho6 hg6 hor6 hlt6; have HO6 := Lib.hid ho6; have HG6 := Lib.hid hg6; clear ho6 hg6 hor6 hlt6)
            go_roundg (gk - 1)
            case rel =>
              refine ⟨j + 1, _, _, rfl, by omega, by omega, ?_, ?_, ?_⟩
              · have := HO6.out
                rw [List.append_assoc, ← List.replicate_succ'] at this
                exact this
              · exact (HB.out.alloc HB.out.size _).grown HG6.out (by have := HB.out.size; simp; omega) (fun k hk => own_base HO.out hk)
              · exact (HX.out.alloc _).grown HG6.out (own_off HX.out HO.out (by decide))
            case measure => omega
          · have hltI : ¬ (l0.length : Int) + j < 256 := by omega
            obtain rfl : j = 256 - l0.length := by omega
            go_wp2
            go_roundg (4 - (1 + 1))
            case rel =>
              have hL1 : fxPre (1 + 1) = l0 ++ List.replicate (256 - l0.length) 9 := by rw [HLn.out, ← HL.out]; rfl
              have hL2 : l0.length + (256 - l0.length) = (fxPre (1 + 1)).length := by rw [hL1]; simp
              refine ⟨1 + 1, A1, c1, by go_num, by omega, by rw [← hL2], ?_, HB.out⟩
              rw [← hL2, hL1]; exact HO.out
            case measure => omega
      ·
        go_wp2
        go_loopg [0] 288 (FxI w l0 280 7 wo.heap.size)
        case atStart =>
          refine ⟨0, _, _, rfl, by rw [HLn.out]; decide, by omega, ?_, HB.out.alloc HB.out.size _, Blk.made _ _ _⟩
          simpa using own_below HO.out ((Below.refl _ _).alloc (Nat.le_refl _) _)
        case round =>
          clear HO HB
          obtain ⟨j, A1, c1, rfl, hj, hk, ho1, hb1, hx1⟩ := hrel
          have HO := Lib.hid ho1
          have HB := Lib.hid hb1
          have HX := Lib.hid hx1
          have x0 := hx1.cell (i := 0) (v := .int .i64 280) rfl
          have x1 := hx1.cell (i := 1) (v := .int .i64 7) rfl
          clear ho1 hb1 hx1
          by_cases hlt : l0.length + j < 280
          · have hltI : (l0.length : Int) + j < 280 := by omega
            go_wp2_with (refine app_int rfl (.tmp 17) (.tmp 20) rfl w.heap.size _ (l0.length + j) _ wr.heap.size _ 3 rfl (HO.out.alloc _) rfl (Blk.made _ _ _) (by omega) (by have := HB.out.size; simp; omega) ?_; intro g6 cap6 w6 ho6 hg6 hor6 hlt6; have HO6 := Lib.hid ho6; have HG6 := Lib.hid hg6; clear ho6 hg6 hor6 hlt6)
            go_roundg (gk - 1)
            case rel =>
              refine ⟨j + 1, _, _, rfl, by omega, by omega, ?_, ?_, ?_⟩
              · have := HO6.out
                rw [List.append_assoc, ← List.replicate_succ'] at this
                exact this
              · exact (HB.out.alloc HB.out.size _).grown HG6.out (by have := HB.out.size; simp; omega) (fun k hk => own_base HO.out hk)
              · exact (HX.out.alloc _).grown HG6.out (own_off HX.out HO.out (by decide))
            case measure => omega
          · have hltI : ¬ (l0.length : Int) + j < 280 := by omega
            obtain rfl : j = 280 - l0.length := by omega
            go_wp2
            go_roundg (4 - (2 + 1))
            case rel =>
              have hL1 : fxPre (2 + 1) = l0 ++ List.replicate (280 - l0.length) 7 := by rw [HLn.out, ← HL.out]; rfl
              have hL2 : l0.length + (280 - l0.length) = (fxPre (2 + 1)).length := by rw [hL1]; simp
              refine ⟨2 + 1, A1, c1, by go_num, by omega, by rw [← hL2], ?_, HB.out⟩
              rw [← hL2, hL1]; exact HO.out
            case measure => omega
      ·
        go_wp2
        go_loopg [0] 288 (FxI w l0 288 8 wo.heap.size)
        case atStart =>
          refine ⟨0, _, _, rfl, by rw [HLn.out]; decide, by omega, ?_, HB.out.alloc HB.out.size _, Blk.made _ _ _⟩
          simpa using own_below HO.out ((Below.refl _ _).alloc (Nat.le_refl _) _)
        case round =>
          clear HO HB
          obtain ⟨j, A1, c1, rfl, hj, hk, ho1, hb1, hx1⟩ := hrel
          have HO := Lib.hid ho1
          have HB := Lib.hid hb1
          have HX := Lib.hid hx1
          have x0 := hx1.cell (i := 0) (v := .int .i64 288) rfl
          have x1 := hx1.cell (i := 1) (v := .int .i64 8) rfl
          clear ho1 hb1 hx1
          by_cases hlt : l0.length + j < 288
          · have hltI : (l0.length : Int) + j < 288 := by omega
            go_wp2_with (refine app_int rfl (.tmp 17) (.tmp 20) rfl w.heap.size _ (l0.length + j) _ wr.heap.size _ 3 rfl (HO.out.alloc _) rfl (Blk.made _ _ _) (by omega) (by have := HB.out.size; simp; omega) ?_; intro g6 cap6 w6 ho6 hg6 hor6 hlt6; have HO6 := Lib.hid ho6; have HG6 := Lib.hid hg6; clear ho6 hg6 hor6 hlt6)
            go_roundg (gk - 1)
            case rel =>
              refine ⟨j + 1, _, _, rfl, by omega, by omega, ?_, ?_, ?_⟩
              · have := HO6.out
                rw [List.append_assoc, ← List.replicate_succ'] at this
                exact this
              · exact (HB.out.alloc HB.out.size _).grown HG6.out (by have := HB.out.size; simp; omega) (fun k hk => own_base HO.out hk)
              · exact (HX.out.alloc _).grown HG6.out (own_off HX.out HO.out (by decide))
            case measure => omega
          · have hltI : ¬ (l0.length : Int) + j < 288 := by omega
            obtain rfl : j = 288 - l0.length := by omega
            go_wp2
            go_roundg (4 - (3 + 1))
            case rel =>
              have hL1 : fxPre (3 + 1) = l0 ++ List.replicate (288 - l0.length) 8 := by rw [HLn.out, ← HL.out]; rfl
              have hL2 : l0.length + (288 - l0.length) = (fxPre (3 + 1)).length := by rw [hL1]; simp
              refine ⟨3 + 1, A1, c1, by go_num, by omega, by rw [← hL2], ?_, HB.out⟩
              rw [← hL2, hL1]; exact HO.out
            case measure => omega
    · obtain rfl : i = 4 := by omega
      have hl288 : l0.length = 288 := HLn.out
      have hlf : fixedL = l0 := HL.out
      rw [hl288] at HO
      rw [← hlf] at HO
      rw [hl288]
      clear hl288 hlf HLn HL
      obtain ⟨g0, cap0, hv0, _, hlt0⟩ := HO.out.form (by omega)
      injection hv0 with hv0 _ hv1
      subst hv0 hv1
      go_wp2
      go_loopg [1] 32 (FxD w (.slice (some ⟨g0, 0, none⟩) 288 c) g0)
      case atStart => exact ⟨0, none, 0, rfl, by omega, by omega, ⟨rfl, .inl ⟨rfl, rfl⟩⟩, HB.out, HO.out, by simp [Value.ownBlock], hlt0⟩
      case round =>
        clear HO HB
        obtain ⟨j, A1, c1, rfl, hj, hk, ho1, hb1, hx1, hx2, hx3⟩ := hrel
        have HO := Lib.hid ho1
        have HB := Lib.hid hb1
        have HX := Lib.hid hx1
        have HX2 := Lib.hid hx2
        clear ho1 hb1 hx1 hx2
        by_cases hlt : j < 32
        · have hltI : (j : Int) < 32 := by omega
          go_wp2_with (refine app_int rfl (.tmp 26) (.tmp 27) rfl w.heap.size _ j _ wr.heap.size _ 3 rfl (HO.out.alloc _) rfl (Blk.made _ _ _) (by omega) (by have := HB.out.size; simp; omega) ?_; intro g6 cap6 w6 ho6 hg6 hor6 hlt6; have HO6 := Lib.hid ho6; have HG6 := Lib.hid hg6; have HR6 := Lib.hid hor6; clear ho6 hg6 hor6 hlt6)
          go_roundg (gk - 1)
          case rel =>
            refine ⟨j + 1, _, _, rfl, by omega, by omega, ?_, ?_, ?_, ?_, ?_⟩
            · have := HO6.out
              rw [← List.replicate_succ'] at this
              exact this
            · exact (HB.out.alloc HB.out.size _).grown HG6.out (by have := HB.out.size; simp; omega) (fun k hk => own_base HO.out hk)
            · exact (HX.out.alloc _).kept HG6.out (.inr (fun e => HX2.out e.symm))
            · intro he
              rcases HR6.out with e | e
              · exact HX2.out (e.trans (by simpa [Value.ownBlock] using he))
              · simp [Value.ownBlock] at he e; omega
            · have := HG6.out.size; simp at this; omega
          case measure => omega
        · obtain rfl : j = 32 := by omega
          go_wp2
          go_ret2
          exact ⟨_, _, _, _, rfl, RdI.of_own HX.out, RdI.of_own HO.out, HB.out⟩
end Go.Proofs.YtlhaehefhhcgaaaDoor
