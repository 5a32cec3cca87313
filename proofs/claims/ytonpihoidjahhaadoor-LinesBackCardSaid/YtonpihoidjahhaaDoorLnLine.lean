/-
  peatbanklaw31.line, walked.
-/
import Derived.Test.YtonpihoidjahhaaDoorLnFmt
import Derived.Test.YtonpihoidjahhaaDoorLnBackP
namespace Go.Proofs.YtonpihoidjahhaaDoor
open Go.RowKit
set_option linter.unusedVariables false
set_option linter.unusedSimpArgs false

theorem cat32 (l : List UInt8) : (⟨#[32]⟩ : ByteArray) ++ ⟨l.toArray⟩ = ⟨(32 :: l).toArray⟩ := cat_list [32] l
theorem ba_size (l : List UInt8) : (⟨l.toArray⟩ : ByteArray).size = l.length := by show l.toArray.size = _; simp
theorem crash_len : ∀ (l : List Int), (∀ z ∈ l, i64b z) → ([99, 114, 97, 115, 104] ++ sp (l.map Lib.itoa)).length ≤ 5 + 22 * l.length
  | [], _ => by simp [sp]
  | z :: l, h => by
    have ih := crash_len l (fun y hy => h y (by simp [hy]))
    have := itoa_len (h z (by simp))
    simp only [sp, List.map_cons, List.flatMap_cons, List.length_append, List.length_cons, List.length_nil] at ih ⊢
    omega
def StB (w : World) (g : Nat) (x : StepV) (B F : Value) : Prop := Blk w g 39 (stepVs x B F)
def WrI (bs : List Int) (L0 : List UInt8) (n : Nat) (w : World) (g : Nat) (cs : Array Value) (k : Nat) (sv iv : Value) (wr : World) : Prop :=
  ∃ i : Nat, iv = .int .i64 (i : Int) ∧ i + k = n ∧ sv = .string ⟨(L0 ++ hexL (bs.take i)).toArray⟩ ∧ Blk wr g 39 cs ∧ Below w.heap.size w wr
def CrI (fs : List Int) (n : Nat) (w : World) (g : Nat) (cs : Array Value) (k : Nat) (sv iv : Value) (wr : World) : Prop :=
  ∃ i : Nat, iv = .int .i64 (i : Int) ∧ i + k = n ∧ sv = .string ⟨([99, 114, 97, 115, 104] ++ sp ((fs.take i).map Lib.itoa)).toArray⟩ ∧ Blk wr g 39 cs ∧ Below w.heap.size w wr
set_option maxRecDepth 100000 in
set_option maxHeartbeats 3200000 in
theorem line_any (x : StepV) (v : Value) (w : World) (hx : StRd w v x) (hok : StepOk x) (ht : LnT w) (hd : DbT w) (hbn : x.bytes.length ≤ 1000000) (hfn : x.fates.length ≤ 1000000) :
    Calls Tryd.prog 13 #[v] w fun e w' => e = .returned (.string ⟨(lineL x).toArray⟩) ∧ Below w.heap.size w w' := by
  obtain ⟨A, c, A', c', rfl, ha, hf⟩ := hx
  have HT := Lib.hid ht
  have HD := Lib.hid hd
  have HA := Lib.hid ha
  have HF := Lib.hid hf
  have HP := Lib.hid hok.p
  have HN := Lib.hid hok.n
  have HS := Lib.hid hok.s
  have HB := Lib.hid hok.b
  have HFs := Lib.hid hok.f
  have hk0 := hok.k0
  have hk1 := hok.k1
  have l1 := itoa_len hok.p
  have l2 := itoa_len hok.n
  have l3 := itoa_len hok.s
  clear ht hd ha hf hok
  unfold stepVs
  go_enter Tryd.func13, Tryd.ntmps13
  go_wp2_with fail
  obtain ⟨wa, hwa⟩ : ∃ wa, wa = w.alloc (Obj.cells (stepVs x (.slice A x.bytes.length c) (.slice A' x.fates.length c')) 39) := ⟨_, rfl⟩
  have K0 := Lib.hid (show Blk wa w.heap.size 39 (stepVs x (.slice A x.bytes.length c) (.slice A' x.fates.length c')) by rw [hwa]; exact Blk.made _ _ _)
  have L0 := Lib.hid (show Below w.heap.size w wa by rw [hwa]; exact (Below.refl _ _).alloc (Nat.le_refl _) _)
  unfold stepVs at hwa K0
  rw [← hwa]
  clear hwa
  have k1 := K0.out.cell (i := 1) rfl
  have k2 := K0.out.cell (i := 2) rfl
  have k3 := K0.out.cell (i := 3) rfl
  have c1 := cat32 (Lib.itoa x.pos)
  have c2 := cat32 (Lib.itoa x.n)
  have c3 := cat32 (Lib.itoa x.snap)
  have s1 : ¬ 9223372036854775807 < 1 + (Lib.itoa x.pos).length := by omega
  have s2 : ¬ 9223372036854775807 < 1 + (Lib.itoa x.n).length := by omega
  have s3 : ¬ 9223372036854775807 < 1 + (Lib.itoa x.snap).length := by omega
  refine wp_region_qs (fun _ w' => w'.cell? ⟨w.heap.size, 1, none⟩ = some (.int .i64 x.pos) ∧ w'.cell? ⟨w.heap.size, 2, none⟩ = some (.int .i64 x.n) ∧ w'.cell? ⟨w.heap.size, 3, none⟩ = some (.int .i64 x.snap)) [(0, some 3), (1, some 2), (4, some 3), (5, some 2), (8, some 3), (9, some 2), (2, none), (3, some 3), (6, none), (7, some 3), (10, none), (11, some 3), (12, some 3), (13, some 3), (14, some 3)] (by kernel_rfl) (by kernel_rfl) (by kernel_rfl) (by kernel_rfl) (by kernel_rfl) (fun _ _ _ _ _ h => h) ⟨k1, k2, k3⟩ ?_
  simp only [List.map_cons, List.map_nil, List.getD_cons_succ, List.getD_cons_zero]
  (repeat (first | (refine qs_now (v := ?_) (by rfl) ?_ ?_; rotate_left 1; (· (intro w' hS; go_simp; (try (simp only [↓IntWalk.iteOmega]; go_simp)); (try simp (disch := omega) only [IntWalk.i64_in]); try with_reducible rfl)); simp only [Act.put, List.setIfInBounds_toArray, List.set_cons_zero, List.set_cons_succ]) | (refine qs_run (v := ?_) (by rfl) ?_ ?_; rotate_left 1; (· (intro j w' hS; go_simp; (try (simp only [↓IntWalk.iteOmega]; go_simp)); (try simp (disch := omega) only [IntWalk.i64_in]); try with_reducible rfl)); simp only [Act.put, List.setIfInBounds_toArray, List.set_cons_zero, List.set_cons_succ]) | (refine qs_mid (v := ?_) (by rfl) ?_ ?_; rotate_left 1; (· (intro j w' hj1 hj2 hS; go_simp; (try (simp only [↓IntWalk.iteOmega]; go_simp)); (try simp (disch := omega) only [IntWalk.i64_in]); try with_reducible rfl)); simp only [Act.put, List.setIfInBounds_toArray, List.set_cons_zero, List.set_cons_succ]) | (refine qs_skip (by rfl) ?_; simp only [Act.put, List.setIfInBounds_toArray, List.set_cons_zero, List.set_cons_succ])))
  refine qs_act ?_
  have La := Lib.hid (show Below w.heap.size w wa.drew from L0.out.drew)
  have Ka := Lib.hid K0.out.drew
  generalize wa.drew = w1 at *
  go_wp2_with fail
  refine (itoa_any x.pos HP.out w1 (HT.out.below La.out)).mono ?_
  rintro ev w2 ⟨rfl, hb⟩
  have Lb := Lib.hid (below_chain La.out hb)
  have Kb := Lib.hid (Ka.out.below hb Ka.out.lt)
  clear hb La Ka
  have k1 := Kb.out.cell (i := 1) rfl
  have k2 := Kb.out.cell (i := 2) rfl
  have k3 := Kb.out.cell (i := 3) rfl
  go_wp2
  refine ⟨⟨k1, k2, k3⟩, ?_⟩
  clear k1 k2 k3
  (repeat (first | (refine qs_now (v := ?_) (by rfl) ?_ ?_; rotate_left 1; (· (intro w' hS; go_simp; (try (simp only [↓IntWalk.iteOmega]; go_simp)); (try simp (disch := omega) only [IntWalk.i64_in]); try with_reducible rfl)); simp only [Act.put, List.setIfInBounds_toArray, List.set_cons_zero, List.set_cons_succ]) | (refine qs_run (v := ?_) (by rfl) ?_ ?_; rotate_left 1; (· (intro j w' hS; go_simp; (try (simp only [↓IntWalk.iteOmega]; go_simp)); (try simp (disch := omega) only [IntWalk.i64_in]); try with_reducible rfl)); simp only [Act.put, List.setIfInBounds_toArray, List.set_cons_zero, List.set_cons_succ]) | (refine qs_mid (v := ?_) (by rfl) ?_ ?_; rotate_left 1; (· (intro j w' hj1 hj2 hS; go_simp; (try (simp only [↓IntWalk.iteOmega]; go_simp)); (try simp (disch := omega) only [IntWalk.i64_in]); try with_reducible rfl)); simp only [Act.put, List.setIfInBounds_toArray, List.set_cons_zero, List.set_cons_succ]) | (refine qs_skip (by rfl) ?_; simp only [Act.put, List.setIfInBounds_toArray, List.set_cons_zero, List.set_cons_succ])))
  refine qs_act ?_
  go_wp2_with fail
  refine (itoa_any x.n HN.out w2 (HT.out.below Lb.out)).mono ?_
  rintro ev w3 ⟨rfl, hb⟩
  have Lc := Lib.hid (below_chain Lb.out hb)
  have Kc := Lib.hid (Kb.out.below hb Kb.out.lt)
  clear hb Lb Kb
  have k1 := Kc.out.cell (i := 1) rfl
  have k2 := Kc.out.cell (i := 2) rfl
  have k3 := Kc.out.cell (i := 3) rfl
  go_wp2
  refine ⟨⟨k1, k2, k3⟩, ?_⟩
  clear k1 k2 k3
  (repeat (first | (refine qs_now (v := ?_) (by rfl) ?_ ?_; rotate_left 1; (· (intro w' hS; go_simp; (try (simp only [↓IntWalk.iteOmega]; go_simp)); (try simp (disch := omega) only [IntWalk.i64_in]); try with_reducible rfl)); simp only [Act.put, List.setIfInBounds_toArray, List.set_cons_zero, List.set_cons_succ]) | (refine qs_run (v := ?_) (by rfl) ?_ ?_; rotate_left 1; (· (intro j w' hS; go_simp; (try (simp only [↓IntWalk.iteOmega]; go_simp)); (try simp (disch := omega) only [IntWalk.i64_in]); try with_reducible rfl)); simp only [Act.put, List.setIfInBounds_toArray, List.set_cons_zero, List.set_cons_succ]) | (refine qs_mid (v := ?_) (by rfl) ?_ ?_; rotate_left 1; (· (intro j w' hj1 hj2 hS; go_simp; (try (simp only [↓IntWalk.iteOmega]; go_simp)); (try simp (disch := omega) only [IntWalk.i64_in]); try with_reducible rfl)); simp only [Act.put, List.setIfInBounds_toArray, List.set_cons_zero, List.set_cons_succ]) | (refine qs_skip (by rfl) ?_; simp only [Act.put, List.setIfInBounds_toArray, List.set_cons_zero, List.set_cons_succ])))
  refine qs_act ?_
  go_wp2_with fail
  refine (itoa_any x.snap HS.out w3 (HT.out.below Lc.out)).mono ?_
  rintro ev w4 ⟨rfl, hb⟩
  have Ld := Lib.hid (below_chain Lc.out hb)
  have Kd := Lib.hid (Kc.out.below hb Kc.out.lt)
  clear hb Lc Kc
  have k1 := Kd.out.cell (i := 1) rfl
  have k2 := Kd.out.cell (i := 2) rfl
  have k3 := Kd.out.cell (i := 3) rfl
  go_wp2
  refine ⟨⟨k1, k2, k3⟩, ?_⟩
  clear k1 k2 k3
  (repeat (first | (refine qs_now (v := ?_) (by rfl) ?_ ?_; rotate_left 1; (· (intro w' hS; go_simp; (try (simp only [↓IntWalk.iteOmega]; go_simp)); (try simp (disch := omega) only [IntWalk.i64_in]); try with_reducible rfl)); simp only [Act.put, List.setIfInBounds_toArray, List.set_cons_zero, List.set_cons_succ]) | (refine qs_run (v := ?_) (by rfl) ?_ ?_; rotate_left 1; (· (intro j w' hS; go_simp; (try (simp only [↓IntWalk.iteOmega]; go_simp)); (try simp (disch := omega) only [IntWalk.i64_in]); try with_reducible rfl)); simp only [Act.put, List.setIfInBounds_toArray, List.set_cons_zero, List.set_cons_succ]) | (refine qs_mid (v := ?_) (by rfl) ?_ ?_; rotate_left 1; (· (intro j w' hj1 hj2 hS; go_simp; (try (simp only [↓IntWalk.iteOmega]; go_simp)); (try simp (disch := omega) only [IntWalk.i64_in]); try with_reducible rfl)); simp only [Act.put, List.setIfInBounds_toArray, List.set_cons_zero, List.set_cons_succ]) | (refine qs_skip (by rfl) ?_; simp only [Act.put, List.setIfInBounds_toArray, List.set_cons_zero, List.set_cons_succ])))
  refine qs_nil ?_
  obtain ⟨S1, hS1⟩ : ∃ S1 : ByteArray, S1 = ⟨(32 :: Lib.itoa x.pos).toArray⟩ := ⟨_, rfl⟩
  obtain ⟨S2, hS2⟩ : ∃ S2 : ByteArray, S2 = ⟨(32 :: Lib.itoa x.n).toArray⟩ := ⟨_, rfl⟩
  obtain ⟨S3, hS3⟩ : ∃ S3 : ByteArray, S3 = ⟨(32 :: Lib.itoa x.snap).toArray⟩ := ⟨_, rfl⟩
  rw [← hS1, ← hS2, ← hS3]
  have z1 : S1.size ≤ 22 := by rw [hS1, ba_size, List.length_cons]; omega
  have z2 : S2.size ≤ 22 := by rw [hS2, ba_size, List.length_cons]; omega
  have z3 : S3.size ≤ 22 := by rw [hS3, ba_size, List.length_cons]; omega
  have H1 := Lib.hid hS1
  have H2 := Lib.hid hS2
  have H3 := Lib.hid hS3
  clear hS1 hS2 hS3 c1 c2 c3 s1 s2 s3 l1 l2 l3 K0 L0
  have k0 := Kd.out.cell (i := 0) rfl
  have k4 := Kd.out.cell (i := 4) rfl
  have k5 := Kd.out.cell (i := 5) rfl
  by_cases hkk : 1 ≤ x.kind ∧ x.kind ≤ 12
  · have HK := Lib.hid hkk
    obtain ⟨hka, hkb⟩ := hkk
    have HL : ∀ k : Int, x.kind = k → lineL x = wordK k ++ sp (toksL x) := fun k hk => by unfold lineL; rw [if_pos HK.out, hk]
    have HLn := Lib.hid HL
    clear HL
    rcases (by omega : x.kind = 1 ∨ x.kind = 2 ∨ x.kind = 3 ∨ x.kind = 4 ∨ x.kind = 5 ∨ x.kind = 6 ∨ x.kind = 7 ∨ x.kind = 8 ∨ x.kind = 9 ∨ x.kind = 10 ∨ x.kind = 11 ∨ x.kind = 12) with hk | hk | hk | hk | hk | hk | hk | hk | hk | hk | hk | hk
    · have HKe := Lib.hid hk
      rw [hk] at k0
      clear hk hka hkb hk0 hk1
      have b1 : ¬ 9223372036854775807 < 4 + S1.size := by omega
      have b2 : ¬ 9223372036854775807 < 4 + S1.size + S2.size := by omega
      go_wp2
      go_ret
      refine ⟨?_, Ld.out⟩
      rw [HLn.out 1 HKe.out]
      have ht : toksL x = [Lib.itoa x.pos, Lib.itoa x.n] := by unfold toksL; rw [HKe.out]; rfl
      rw [ht]
      rw [H1.out]
      rw [H2.out]
      have e0 : (⟨([114, 101, 97, 100]).toArray⟩ : ByteArray) ++ ⟨(32 :: Lib.itoa x.pos).toArray⟩ = ⟨([114, 101, 97, 100] ++ (32 :: Lib.itoa x.pos)).toArray⟩ := cat_list _ _
      have e1 : (⟨(([114, 101, 97, 100] ++ (32 :: Lib.itoa x.pos))).toArray⟩ : ByteArray) ++ ⟨(32 :: Lib.itoa x.n).toArray⟩ = ⟨(([114, 101, 97, 100] ++ (32 :: Lib.itoa x.pos)) ++ (32 :: Lib.itoa x.n)).toArray⟩ := cat_list _ _
      refine congrArg (fun q : ByteArray => Ending.returned (.string q)) ?_
      show (⟨([114, 101, 97, 100]).toArray⟩ : ByteArray) ++ ⟨(32 :: Lib.itoa x.pos).toArray⟩ ++ ⟨(32 :: Lib.itoa x.n).toArray⟩ = _
      rw [e0]
      rw [e1]
      simp [sp, wordK]
    · have HKe := Lib.hid hk
      rw [hk] at k0
      clear hk hka hkb hk0 hk1
      have b1 : ¬ 9223372036854775807 < 5 + S1.size := by omega
      have b2 : ¬ 9223372036854775807 < 5 + S1.size + 1 := by omega
      obtain ⟨M0, hM0⟩ : ∃ M0, M0 = [119, 114, 105, 116, 101] ++ (32 :: Lib.itoa x.pos) ++ [32] := ⟨_, rfl⟩
      have hM0l : M0.length ≤ 100 := by
        have := z1
        rw [H1.out, ba_size] at this
        rw [hM0]
        simp only [List.length_append, List.length_cons, List.length_nil] at this ⊢
        omega
      have e1 : (⟨#[119, 114, 105, 116, 101]⟩ : ByteArray) ++ S1 ++ ⟨#[32]⟩ = ⟨M0.toArray⟩ := by
        rw [hM0, H1.out]
        have a1 : (⟨[119, 114, 105, 116, 101].toArray⟩ : ByteArray) ++ ⟨(32 :: Lib.itoa x.pos).toArray⟩ = ⟨([119, 114, 105, 116, 101] ++ (32 :: Lib.itoa x.pos)).toArray⟩ := cat_list _ _
        show (⟨[119, 114, 105, 116, 101].toArray⟩ : ByteArray) ++ ⟨(32 :: Lib.itoa x.pos).toArray⟩ ++ ⟨[32].toArray⟩ = _
        rw [a1, cat_list]
      have HM0 := Lib.hid hM0
      clear hM0
      go_wp2
      clear e1
      go_loopg [6, 7] x.bytes.length (WrI x.bytes M0 x.bytes.length w w.heap.size (stepVs x (.slice A x.bytes.length c) (.slice A' x.fates.length c')))
      case atStart => exact ⟨0, rfl, by omega, by simp [hexL], Kd.out, Ld.out⟩
      case round =>
        obtain ⟨i, rfl, hi, rfl, hbk, hbel⟩ := hrel
        have HBel := Lib.hid hbel
        have HBk := Lib.hid hbk
        unfold stepVs at hbk
        have k4 := hbk.cell (i := 4) rfl
        clear hbel hbk
        by_cases hlt : i < x.bytes.length
        · have hltI : (i : Int) < (x.bytes.length : Int) := by omega
          obtain ⟨b, off, rfl, hbw, hx⟩ := HA.out.cell HBel.out hlt
          have hzb := HB.out (x.bytes.getD i 0) (by rw [List.getD_eq_getElem?_getD, List.getElem?_eq_getElem hlt]; exact List.getElem_mem hlt)
          have HNx := Lib.hid (hexL_next (bs := x.bytes) (i := i) hlt)
          have hxl : (M0 ++ hexL (x.bytes.take i)).length ≤ 3000000 := by rw [List.length_append, hexL_len, List.length_take]; omega
          obtain ⟨S, hS⟩ : ∃ S : ByteArray, S = ⟨(M0 ++ hexL (x.bytes.take i)).toArray⟩ := ⟨_, rfl⟩
          rw [← hS]
          have hSz : S.size ≤ 3000000 := by rw [hS, ba_size]; exact hxl
          have HSS := Lib.hid hS
          clear hS hxl
          generalize x.bytes.getD i 0 = z at *
          obtain ⟨zn, rfl⟩ : ∃ zn : Nat, z = zn := ⟨z.toNat, by omega⟩
          obtain ⟨q, hq⟩ : ∃ q, zn / 16 = q := ⟨_, rfl⟩
          obtain ⟨r, hr⟩ : ∃ r, zn % 16 = r := ⟨_, rfl⟩
          have hq16 : q < 16 := by omega
          have hr16 : r < 16 := by omega
          have hqI : (q : Int) < 16 := by omega
          have hrI : (r : Int) < 16 := by omega
          have e1 : (zn : Int) / 16 = (q : Int) := by omega
          have e2 : (zn : Int) % 16 = (r : Int) := by omega
          have e3 : IntKind.u8.wrap (q : Int) = (q : Int) := by rw [IntKind.wrap_u8]; omega
          have e4 : IntKind.u8.wrap (r : Int) = (r : Int) := by rw [IntKind.wrap_u8]; omega
          have e5 : (zn : Int).tmod 16 = (r : Int) := by rw [Int.tmod_eq_emod_of_nonneg (by omega)]; omega
          have e6 : (zn : Int).tdiv 16 = (q : Int) := by rw [Int.tdiv_eq_ediv_of_nonneg (by omega)]; omega
          have e7 : IntKind.i64.wrap (q : Int) = (q : Int) := IntWalk.i64_in _ (by omega)
          have e8 : IntKind.i64.wrap (r : Int) = (r : Int) := IntWalk.i64_in _ (by omega)
          have b3 : ¬ 9223372036854775807 < S.size + 1 := by omega
          have b4 : ¬ 9223372036854775807 < S.size + 1 + 1 := by omega
          rw [Int.toNat_natCast, hq, hr] at HNx
          clear hq hr
          go_wp2
          refine wp_region_qs (fun _ w' => w'.cell? ⟨w.heap.size, 4, none⟩ = some (.slice (some ⟨b, off, none⟩) x.bytes.length c) ∧ w'.cell? ⟨b, off + i, none⟩ = some (.int .u8 (zn : Int))) [(0, some 2), (1, some 2), (2, some 2), (3, some 2), (4, some 2), (5, some 2), (6, some 2), (7, some 1), (10, some 2), (11, some 2), (12, some 2), (13, some 2), (14, some 2), (15, some 2), (16, some 1), (8, none), (9, some 2), (17, none), (18, some 2), (19, some 2)] (by kernel_rfl) (by kernel_rfl) (by kernel_rfl) (by kernel_rfl) (by kernel_rfl) (fun _ _ _ _ _ h => h) ⟨k4, hx⟩ ?_
          simp only [List.map_cons, List.map_nil, List.getD_cons_succ, List.getD_cons_zero]
          (repeat (first | (refine qs_now (v := ?_) (by rfl) ?_ ?_; rotate_left 1; (· (intro w' hS; go_simp; (try (simp only [↓IntWalk.iteOmega]; go_simp)); (try simp (disch := omega) only [IntWalk.i64_in]); try with_reducible rfl)); simp only [Act.put, List.setIfInBounds_toArray, List.set_cons_zero, List.set_cons_succ]) | (refine qs_run (v := ?_) (by rfl) ?_ ?_; rotate_left 1; (· (intro j w' hS; go_simp; (try (simp only [↓IntWalk.iteOmega]; go_simp)); (try simp (disch := omega) only [IntWalk.i64_in]); try with_reducible rfl)); simp only [Act.put, List.setIfInBounds_toArray, List.set_cons_zero, List.set_cons_succ]) | (refine qs_mid (v := ?_) (by rfl) ?_ ?_; rotate_left 1; (· (intro j w' hj1 hj2 hS; go_simp; (try (simp only [↓IntWalk.iteOmega]; go_simp)); (try simp (disch := omega) only [IntWalk.i64_in]); try with_reducible rfl)); simp only [Act.put, List.setIfInBounds_toArray, List.set_cons_zero, List.set_cons_succ]) | (refine qs_skip (by rfl) ?_; simp only [Act.put, List.setIfInBounds_toArray, List.set_cons_zero, List.set_cons_succ])))
          refine qs_act ?_
          have M1 := Lib.hid (show Below w.heap.size w wr.drew from HBel.out.drew)
          have J1 := Lib.hid HBk.out.drew
          have X1 := Lib.hid (show wr.drew.cell? ⟨b, off + i, none⟩ = some (.int .u8 (zn : Int)) from hx)
          generalize wr.drew = wq at *
          go_wp2_with fail
          refine (fmt_any q hq16 wq (HD.out.below M1.out)).mono ?_
          rintro ev wp ⟨rfl, hb⟩
          have M2 := Lib.hid (below_chain M1.out hb)
          have J2 := Lib.hid (J1.out.below hb J1.out.lt)
          have X2 := Lib.hid (cell_low X1.out hb)
          clear hb M1 J1 X1
          have J2u := J2
          unfold stepVs at J2u
          have k4' := J2u.out.cell (i := 4) rfl
          have x2' := X2.out
          go_wp2
          refine ⟨⟨k4', x2'⟩, ?_⟩
          clear k4' x2' J2u
          (repeat (first | (refine qs_now (v := ?_) (by rfl) ?_ ?_; rotate_left 1; (· (intro w' hS; go_simp; (try (simp only [↓IntWalk.iteOmega]; go_simp)); (try simp (disch := omega) only [IntWalk.i64_in]); try with_reducible rfl)); simp only [Act.put, List.setIfInBounds_toArray, List.set_cons_zero, List.set_cons_succ]) | (refine qs_run (v := ?_) (by rfl) ?_ ?_; rotate_left 1; (· (intro j w' hS; go_simp; (try (simp only [↓IntWalk.iteOmega]; go_simp)); (try simp (disch := omega) only [IntWalk.i64_in]); try with_reducible rfl)); simp only [Act.put, List.setIfInBounds_toArray, List.set_cons_zero, List.set_cons_succ]) | (refine qs_mid (v := ?_) (by rfl) ?_ ?_; rotate_left 1; (· (intro j w' hj1 hj2 hS; go_simp; (try (simp only [↓IntWalk.iteOmega]; go_simp)); (try simp (disch := omega) only [IntWalk.i64_in]); try with_reducible rfl)); simp only [Act.put, List.setIfInBounds_toArray, List.set_cons_zero, List.set_cons_succ]) | (refine qs_skip (by rfl) ?_; simp only [Act.put, List.setIfInBounds_toArray, List.set_cons_zero, List.set_cons_succ])))
          refine qs_act ?_
          go_wp2_with fail
          refine (fmt_any r hr16 wp (HD.out.below M2.out)).mono ?_
          rintro ev ws ⟨rfl, hb⟩
          have M3 := Lib.hid (below_chain M2.out hb)
          have J3 := Lib.hid (J2.out.below hb J2.out.lt)
          have X3 := Lib.hid (cell_low X2.out hb)
          clear hb M2 J2 X2
          have J3u := J3
          unfold stepVs at J3u
          have k4' := J3u.out.cell (i := 4) rfl
          have x3' := X3.out
          go_wp2
          refine ⟨⟨k4', x3'⟩, ?_⟩
          clear k4' x3' J3u
          (repeat (first | (refine qs_now (v := ?_) (by rfl) ?_ ?_; rotate_left 1; (· (intro w' hS; go_simp; (try (simp only [↓IntWalk.iteOmega]; go_simp)); (try simp (disch := omega) only [IntWalk.i64_in]); try with_reducible rfl)); simp only [Act.put, List.setIfInBounds_toArray, List.set_cons_zero, List.set_cons_succ]) | (refine qs_run (v := ?_) (by rfl) ?_ ?_; rotate_left 1; (· (intro j w' hS; go_simp; (try (simp only [↓IntWalk.iteOmega]; go_simp)); (try simp (disch := omega) only [IntWalk.i64_in]); try with_reducible rfl)); simp only [Act.put, List.setIfInBounds_toArray, List.set_cons_zero, List.set_cons_succ]) | (refine qs_mid (v := ?_) (by rfl) ?_ ?_; rotate_left 1; (· (intro j w' hj1 hj2 hS; go_simp; (try (simp only [↓IntWalk.iteOmega]; go_simp)); (try simp (disch := omega) only [IntWalk.i64_in]); try with_reducible rfl)); simp only [Act.put, List.setIfInBounds_toArray, List.set_cons_zero, List.set_cons_succ]) | (refine qs_skip (by rfl) ?_; simp only [Act.put, List.setIfInBounds_toArray, List.set_cons_zero, List.set_cons_succ])))
          refine qs_nil ?_
          go_wp2
          go_roundg (gk - 1)
          case measure => omega
          case rel =>
            refine ⟨i + 1, by go_num, by omega, ?_, J3.out, M3.out⟩
            rw [HSS.out, HNx.out]
            have a1 : (⟨(M0 ++ hexL (x.bytes.take i)).toArray⟩ : ByteArray) ++ ⟨[hexD q].toArray⟩ = ⟨((M0 ++ hexL (x.bytes.take i)) ++ [hexD q]).toArray⟩ := cat_list _ _
            have a2 : (⟨((M0 ++ hexL (x.bytes.take i)) ++ [hexD q]).toArray⟩ : ByteArray) ++ ⟨[hexD r].toArray⟩ = ⟨((M0 ++ hexL (x.bytes.take i)) ++ [hexD q] ++ [hexD r]).toArray⟩ := cat_list _ _
            refine congrArg Value.string ?_
            show (⟨(M0 ++ hexL (x.bytes.take i)).toArray⟩ : ByteArray) ++ ⟨[hexD q].toArray⟩ ++ ⟨[hexD r].toArray⟩ = _
            rw [a1, a2]
            simp
        · obtain rfl : i = x.bytes.length := by omega
          rw [List.take_length]
          have ht : toksL x = [Lib.itoa x.pos, hexW x.bytes] := by unfold toksL; rw [HKe.out]; rfl
          have HTk := Lib.hid ht
          clear ht
          by_cases hb0 : x.bytes.length = 0
          · have hbe : x.bytes = [] := List.eq_nil_of_length_eq_zero hb0
            have d0 : ((x.bytes.length : Int) == 0) = true := by simp; omega
            have HBe := Lib.hid hbe
            obtain ⟨S, hS⟩ : ∃ S : ByteArray, S = ⟨(M0 ++ hexL x.bytes).toArray⟩ := ⟨_, rfl⟩
            rw [← hS]
            have hSz : S.size ≤ 3000000 := by rw [hS, ba_size, List.length_append, hexL_len]; omega
            have HSS := Lib.hid hS
            have b3 : ¬ 9223372036854775807 < S.size + 4 := by omega
            clear hbe hS
            go_wp2
            go_ret
            refine ⟨?_, HBel.out⟩
            rw [HLn.out 2 HKe.out, HTk.out, HSS.out, HBe.out, HM0.out]
            have a1 : (⟨([119, 114, 105, 116, 101] ++ (32 :: Lib.itoa x.pos) ++ [32] ++ hexL []).toArray⟩ : ByteArray) ++ ⟨[110, 111, 110, 101].toArray⟩ = ⟨([119, 114, 105, 116, 101] ++ (32 :: Lib.itoa x.pos) ++ [32] ++ hexL [] ++ [110, 111, 110, 101]).toArray⟩ := cat_list _ _
            refine congrArg (fun q : ByteArray => Ending.returned (.string q)) ?_
            show (⟨([119, 114, 105, 116, 101] ++ (32 :: Lib.itoa x.pos) ++ [32] ++ hexL []).toArray⟩ : ByteArray) ++ ⟨[110, 111, 110, 101].toArray⟩ = _
            rw [a1]
            simp [sp, wordK, hexW, hexL, noneW]
          · have hbe : x.bytes ≠ [] := fun h => hb0 (by rw [h]; rfl)
            have d0 : ((x.bytes.length : Int) == 0) = false := by simp; omega
            have HBe := Lib.hid hbe
            clear hbe
            go_wp2
            go_ret
            refine ⟨?_, HBel.out⟩
            rw [HLn.out 2 HKe.out, HTk.out, HM0.out]
            have : hexW x.bytes = hexL x.bytes := by unfold hexW; rw [if_neg HBe.out]
            rw [this]
            refine congrArg (fun q : List UInt8 => Ending.returned (.string ⟨q.toArray⟩)) ?_
            simp [sp, wordK]
    · have HKe := Lib.hid hk
      rw [hk] at k0
      clear hk hka hkb hk0 hk1
      have b1 : ¬ 9223372036854775807 < 7 + S1.size := by omega
      have b2 : ¬ 9223372036854775807 < 7 + S1.size + S2.size := by omega
      go_wp2
      go_ret
      refine ⟨?_, Ld.out⟩
      rw [HLn.out 3 HKe.out]
      have ht : toksL x = [Lib.itoa x.pos, Lib.itoa x.n] := by unfold toksL; rw [HKe.out]; rfl
      rw [ht]
      rw [H1.out]
      rw [H2.out]
      have e0 : (⟨([100, 105, 115, 99, 97, 114, 100]).toArray⟩ : ByteArray) ++ ⟨(32 :: Lib.itoa x.pos).toArray⟩ = ⟨([100, 105, 115, 99, 97, 114, 100] ++ (32 :: Lib.itoa x.pos)).toArray⟩ := cat_list _ _
      have e1 : (⟨(([100, 105, 115, 99, 97, 114, 100] ++ (32 :: Lib.itoa x.pos))).toArray⟩ : ByteArray) ++ ⟨(32 :: Lib.itoa x.n).toArray⟩ = ⟨(([100, 105, 115, 99, 97, 114, 100] ++ (32 :: Lib.itoa x.pos)) ++ (32 :: Lib.itoa x.n)).toArray⟩ := cat_list _ _
      refine congrArg (fun q : ByteArray => Ending.returned (.string q)) ?_
      show (⟨([100, 105, 115, 99, 97, 114, 100]).toArray⟩ : ByteArray) ++ ⟨(32 :: Lib.itoa x.pos).toArray⟩ ++ ⟨(32 :: Lib.itoa x.n).toArray⟩ = _
      rw [e0]
      rw [e1]
      simp [sp, wordK]
    · have HKe := Lib.hid hk
      rw [hk] at k0
      clear hk hka hkb hk0 hk1
      go_wp2
      go_ret
      refine ⟨?_, Ld.out⟩
      rw [HLn.out 4 HKe.out]
      have ht : toksL x = [] := by unfold toksL; rw [HKe.out]; rfl
      rw [ht]
      rfl
    · have HKe := Lib.hid hk
      rw [hk] at k0
      clear hk hka hkb hk0 hk1
      go_wp2
      go_ret
      refine ⟨?_, Ld.out⟩
      rw [HLn.out 5 HKe.out]
      have ht : toksL x = [] := by unfold toksL; rw [HKe.out]; rfl
      rw [ht]
      rfl
    · have HKe := Lib.hid hk
      rw [hk] at k0
      clear hk hka hkb hk0 hk1
      have b3 : ¬ 9223372036854775807 < 6 + S3.size := by omega
      go_wp2
      go_ret
      refine ⟨?_, Ld.out⟩
      rw [HLn.out 6 HKe.out]
      have ht : toksL x = [Lib.itoa x.snap] := by unfold toksL; rw [HKe.out]; rfl
      rw [ht]
      rw [H3.out]
      have e0 : (⟨([100, 101, 108, 101, 116, 101]).toArray⟩ : ByteArray) ++ ⟨(32 :: Lib.itoa x.snap).toArray⟩ = ⟨([100, 101, 108, 101, 116, 101] ++ (32 :: Lib.itoa x.snap)).toArray⟩ := cat_list _ _
      refine congrArg (fun q : ByteArray => Ending.returned (.string q)) ?_
      show (⟨([100, 101, 108, 101, 116, 101]).toArray⟩ : ByteArray) ++ ⟨(32 :: Lib.itoa x.snap).toArray⟩ = _
      rw [e0]
      simp [sp, wordK]
    · have HKe := Lib.hid hk
      rw [hk] at k0
      clear hk hka hkb hk0 hk1
      have b3 : ¬ 9223372036854775807 < 8 + S3.size := by omega
      go_wp2
      go_ret
      refine ⟨?_, Ld.out⟩
      rw [HLn.out 7 HKe.out]
      have ht : toksL x = [Lib.itoa x.snap] := by unfold toksL; rw [HKe.out]; rfl
      rw [ht]
      rw [H3.out]
      have e0 : (⟨([114, 111, 108, 108, 98, 97, 99, 107]).toArray⟩ : ByteArray) ++ ⟨(32 :: Lib.itoa x.snap).toArray⟩ = ⟨([114, 111, 108, 108, 98, 97, 99, 107] ++ (32 :: Lib.itoa x.snap)).toArray⟩ := cat_list _ _
      refine congrArg (fun q : ByteArray => Ending.returned (.string q)) ?_
      show (⟨([114, 111, 108, 108, 98, 97, 99, 107]).toArray⟩ : ByteArray) ++ ⟨(32 :: Lib.itoa x.snap).toArray⟩ = _
      rw [e0]
      simp [sp, wordK]
    · have HKe := Lib.hid hk
      rw [hk] at k0
      clear hk hka hkb hk0 hk1
      have b3 : ¬ 9223372036854775807 < 8 + S3.size := by omega
      have b1 : ¬ 9223372036854775807 < 8 + S3.size + S1.size := by omega
      have b2 : ¬ 9223372036854775807 < 8 + S3.size + S1.size + S2.size := by omega
      go_wp2
      go_ret
      refine ⟨?_, Ld.out⟩
      rw [HLn.out 8 HKe.out]
      have ht : toksL x = [Lib.itoa x.snap, Lib.itoa x.pos, Lib.itoa x.n] := by unfold toksL; rw [HKe.out]; rfl
      rw [ht]
      rw [H3.out]
      rw [H1.out]
      rw [H2.out]
      have e0 : (⟨([114, 101, 97, 100, 115, 110, 97, 112]).toArray⟩ : ByteArray) ++ ⟨(32 :: Lib.itoa x.snap).toArray⟩ = ⟨([114, 101, 97, 100, 115, 110, 97, 112] ++ (32 :: Lib.itoa x.snap)).toArray⟩ := cat_list _ _
      have e1 : (⟨(([114, 101, 97, 100, 115, 110, 97, 112] ++ (32 :: Lib.itoa x.snap))).toArray⟩ : ByteArray) ++ ⟨(32 :: Lib.itoa x.pos).toArray⟩ = ⟨(([114, 101, 97, 100, 115, 110, 97, 112] ++ (32 :: Lib.itoa x.snap)) ++ (32 :: Lib.itoa x.pos)).toArray⟩ := cat_list _ _
      have e2 : (⟨((([114, 101, 97, 100, 115, 110, 97, 112] ++ (32 :: Lib.itoa x.snap)) ++ (32 :: Lib.itoa x.pos))).toArray⟩ : ByteArray) ++ ⟨(32 :: Lib.itoa x.n).toArray⟩ = ⟨((([114, 101, 97, 100, 115, 110, 97, 112] ++ (32 :: Lib.itoa x.snap)) ++ (32 :: Lib.itoa x.pos)) ++ (32 :: Lib.itoa x.n)).toArray⟩ := cat_list _ _
      refine congrArg (fun q : ByteArray => Ending.returned (.string q)) ?_
      show (⟨([114, 101, 97, 100, 115, 110, 97, 112]).toArray⟩ : ByteArray) ++ ⟨(32 :: Lib.itoa x.snap).toArray⟩ ++ ⟨(32 :: Lib.itoa x.pos).toArray⟩ ++ ⟨(32 :: Lib.itoa x.n).toArray⟩ = _
      rw [e0]
      rw [e1]
      rw [e2]
      simp [sp, wordK]
    · have HKe := Lib.hid hk
      rw [hk] at k0
      clear hk hka hkb hk0 hk1
      have b2 : ¬ 9223372036854775807 < 5 + S2.size := by omega
      go_wp2
      go_ret
      refine ⟨?_, Ld.out⟩
      rw [HLn.out 9 HKe.out]
      have ht : toksL x = [Lib.itoa x.n] := by unfold toksL; rw [HKe.out]; rfl
      rw [ht]
      rw [H2.out]
      have e0 : (⟨([99, 108, 101, 97, 110]).toArray⟩ : ByteArray) ++ ⟨(32 :: Lib.itoa x.n).toArray⟩ = ⟨([99, 108, 101, 97, 110] ++ (32 :: Lib.itoa x.n)).toArray⟩ := cat_list _ _
      refine congrArg (fun q : ByteArray => Ending.returned (.string q)) ?_
      show (⟨([99, 108, 101, 97, 110]).toArray⟩ : ByteArray) ++ ⟨(32 :: Lib.itoa x.n).toArray⟩ = _
      rw [e0]
      simp [sp, wordK]
    · have HKe := Lib.hid hk
      rw [hk] at k0
      clear hk hka hkb hk0 hk1
      go_wp2
      go_loopg [8, 9] x.fates.length (CrI x.fates x.fates.length w w.heap.size (stepVs x (.slice A x.bytes.length c) (.slice A' x.fates.length c')))
      case atStart => exact ⟨0, rfl, by omega, rfl, Kd.out, Ld.out⟩
      case round =>
        obtain ⟨i, rfl, hi, rfl, hbk, hbel⟩ := hrel
        have HBel := Lib.hid hbel
        have HBk := Lib.hid hbk
        unfold stepVs at hbk
        have k5 := hbk.cell (i := 5) rfl
        clear hbel hbk
        by_cases hlt : i < x.fates.length
        · have hltI : (i : Int) < (x.fates.length : Int) := by omega
          obtain ⟨b, off, rfl, hbw, hx⟩ := HF.out.cell HBel.out hlt
          have hzb := HFs.out (x.fates.getD i 0) (by rw [List.getD_eq_getElem?_getD, List.getElem?_eq_getElem hlt]; exact List.getElem_mem hlt)
          have HNx := Lib.hid (show [99, 114, 97, 115, 104] ++ sp ((x.fates.take (i + 1)).map Lib.itoa) = [99, 114, 97, 115, 104] ++ sp ((x.fates.take i).map Lib.itoa) ++ [32] ++ Lib.itoa (x.fates.getD i 0) by
            rw [take_snoc x.fates i hlt, List.map_append, sp_append]
            simp [sp])
          have hxl : ([99, 114, 97, 115, 104] ++ sp ((x.fates.take i).map Lib.itoa)).length ≤ 30000000 := by
            have h1 := crash_len (x.fates.take i) (fun z hz => HFs.out z (List.mem_of_mem_take hz))
            rw [List.length_take] at h1
            omega
          obtain ⟨S, hS⟩ : ∃ S : ByteArray, S = ⟨([99, 114, 97, 115, 104] ++ sp ((x.fates.take i).map Lib.itoa)).toArray⟩ := ⟨_, rfl⟩
          rw [← hS]
          have hSz : S.size ≤ 30000000 := by rw [hS, ba_size]; exact hxl
          have HSS := Lib.hid hS
          clear hS hxl
          generalize x.fates.getD i 0 = z at *
          have hz21 := itoa_len hzb
          have b3 : ¬ 9223372036854775807 < S.size + 1 := by omega
          have b4 : ¬ 9223372036854775807 < S.size + 1 + (Lib.itoa z).length := by omega
          go_wp2_with fail
          refine (itoa_any z hzb wr (HT.out.below HBel.out)).mono ?_
          rintro ev ws ⟨rfl, hb⟩
          have M3 := Lib.hid (below_chain HBel.out hb)
          have J3 := Lib.hid (HBk.out.below hb HBk.out.lt)
          clear hb
          go_wp2
          go_roundg (gk - 1)
          case measure => omega
          case rel =>
            refine ⟨i + 1, by go_num, by omega, ?_, J3.out, M3.out⟩
            rw [HSS.out, HNx.out]
            have a1 : (⟨([99, 114, 97, 115, 104] ++ sp ((x.fates.take i).map Lib.itoa)).toArray⟩ : ByteArray) ++ ⟨[32].toArray⟩ = ⟨([99, 114, 97, 115, 104] ++ sp ((x.fates.take i).map Lib.itoa) ++ [32]).toArray⟩ := cat_list _ _
            refine congrArg Value.string ?_
            show (⟨([99, 114, 97, 115, 104] ++ sp ((x.fates.take i).map Lib.itoa)).toArray⟩ : ByteArray) ++ ⟨[32].toArray⟩ ++ ⟨(Lib.itoa z).toArray⟩ = _
            rw [a1, cat_list]
        · obtain rfl : i = x.fates.length := by omega
          rw [List.take_length]
          have ht : toksL x = x.fates.map Lib.itoa := by unfold toksL; rw [HKe.out]; rfl
          have HTk := Lib.hid ht
          clear ht
          go_wp2
          go_ret
          refine ⟨?_, HBel.out⟩
          rw [HLn.out 10 HKe.out, HTk.out]
          rfl
    · have HKe := Lib.hid hk
      rw [hk] at k0
      clear hk hka hkb hk0 hk1
      have b2 : ¬ 9223372036854775807 < 3 + S2.size := by omega
      go_wp2
      go_ret
      refine ⟨?_, Ld.out⟩
      rw [HLn.out 11 HKe.out]
      have ht : toksL x = [Lib.itoa x.n] := by unfold toksL; rw [HKe.out]; rfl
      rw [ht]
      rw [H2.out]
      have e0 : (⟨([97, 114, 109]).toArray⟩ : ByteArray) ++ ⟨(32 :: Lib.itoa x.n).toArray⟩ = ⟨([97, 114, 109] ++ (32 :: Lib.itoa x.n)).toArray⟩ := cat_list _ _
      refine congrArg (fun q : ByteArray => Ending.returned (.string q)) ?_
      show (⟨([97, 114, 109]).toArray⟩ : ByteArray) ++ ⟨(32 :: Lib.itoa x.n).toArray⟩ = _
      rw [e0]
      simp [sp, wordK]
    · have HKe := Lib.hid hk
      rw [hk] at k0
      clear hk hka hkb hk0 hk1
      go_wp2
      go_ret
      refine ⟨?_, Ld.out⟩
      rw [HLn.out 12 HKe.out]
      have ht : toksL x = [] := by unfold toksL; rw [HKe.out]; rfl
      rw [ht]
      rfl
  · have HK := Lib.hid hkk
    have g : ∀ k : Int, 1 ≤ k → k ≤ 12 → (x.kind == k) = false := fun k h1 h2 => by
      simp only [beq_eq_false_iff_ne, ne_eq]
      rintro rfl
      exact hkk ⟨h1, h2⟩
    have g1 := g 1 (by omega) (by omega)
    have g2 := g 2 (by omega) (by omega)
    have g3 := g 3 (by omega) (by omega)
    have g4 := g 4 (by omega) (by omega)
    have g5 := g 5 (by omega) (by omega)
    have g6 := g 6 (by omega) (by omega)
    have g7 := g 7 (by omega) (by omega)
    have g8 := g 8 (by omega) (by omega)
    have g9 := g 9 (by omega) (by omega)
    have g10 := g 10 (by omega) (by omega)
    have g11 := g 11 (by omega) (by omega)
    have g12 := g 12 (by omega) (by omega)
    clear g hkk hk0 hk1
    go_wp2
    go_ret
    refine ⟨?_, Ld.out⟩
    have : lineL x = [] := by unfold lineL; rw [if_neg HK.out]
    rw [this]
    rfl
end Go.Proofs.YtonpihoidjahhaaDoor
