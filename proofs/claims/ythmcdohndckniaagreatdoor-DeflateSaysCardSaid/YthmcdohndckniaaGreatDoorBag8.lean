/-
  peatbankkit.ApartBytes: rows of one's own lie apart.
-/
import Derived.Test.YthmcdohndckniaaGreatDoorFlat0
import Derived.Test.YthmcdohndckniaaGreatDoorApart8
namespace Go.Proofs.YthmcdohndckniaaGreatDoor
open Go.RowKit
set_option linter.unusedVariables false

/-- A bag that holds lists of bytes alone. -/
def BagAt (w : World) (B : Nat) (v : Value) : Prop := Blk w B 63 #[.slice none 0 0, .slice none 0 0, .slice none 0 0, .slice none 0 0, .slice none 0 0, v, .slice none 0 0, .slice none 0 0, .slice none 0 0, .slice none 0 0, .slice none 0 0, .slice none 0 0, .slice none 0 0, .slice none 0 0, .slice none 0 0, .slice none 0 0, .slice none 0 0, .slice none 0 0, .slice none 0 0, .slice none 0 0, .slice none 0 0]
theorem own_ap {w : World} {b1 b2 n1 n2 : Nat} {t1 t2 : TypeId} {v1 v2 : Value} {x1 x2 : List Value} (h1 : w.ownsRow b1 t1 1 v1 n1 x1) (h2 : w.ownsRow b2 t2 1 v2 n2 x2) (ht : t1 ≠ t2) : ∀ b, v2.ownBlock = some b → v1.ownBlock ≠ some b := by
  intro b hb
  rcases h2.2 with ⟨rfl, _⟩ | ⟨g, cap, cur, rfl, a1, a2, _⟩
  · cases hb
  · injection hb with hb
    subst hb
    exact row_ne8 (show Blk w g t2 cur from a2) h1 (fun e => ht e.symm)
def PutBagPost (B base n : Nat) (xs : List Value) (w : World) (ev : Ending) (w' : World) : Prop :=
  ∃ v, ev = .returned (.tuple #[]) ∧ BagAt w' B v ∧ w'.ownsRow base 22 1 v n xs ∧ Below base w w'
set_option maxHeartbeats 1600000 in
theorem putBytes_any (B base n : Nat) (v : Value) (xs : List Value) (A : Option Addr) (l c : Nat) (w : World) (hB : BagAt w B v) (ho : w.ownsRow base 22 1 v n xs) (hn : n ≤ 1000) (hb : base ≤ B) :
    Calls Tryz.prog 19 #[.pointer (some ⟨B, 0, none⟩), .slice A l c] w (PutBagPost B base (n + 1) (xs ++ [.slice A l c]) w) := by
  have HB := Lib.hid hB
  have O := Lib.hid ho
  obtain ⟨Av, cv, hv, _⟩ := own_slice ho
  subst hv
  have c5 := HB.out.cell (i := 5) (v := .slice Av n cv) rfl
  have hlt := HB.out.lt
  clear hB ho
  go_enter Tryz.func19, Tryz.ntmps19
  go_wp2_with (refine app_src rfl (.tmp 8) (.tmp 10) 32 rfl base 22 _ 1 24 Tryz.underlying32 infoRow8 rfl (by omega) _ n _ rfl (O.out.alloc _) _ 1 [.slice A l c] rfl (src8 _ _ _) (by simp [Value.oneCell']) (by omega) (by omega) (by simp; omega) ?_; intro v2 w2 ho2 hg2 hor2; obtain ⟨A2, c2, hv2, _⟩ := own_slice ho2; subst hv2; have hB2 : BagAt w2 B (.slice Av n cv) := ((HB.out.alloc _).grown hg2 (fun e => row_ne8 (HB.out.alloc (.cells #[.slice A l c] 22)) (O.out.alloc _) (by decide) e.symm)); have d5 := hB2.cell (i := 5) rfl; have f5 := hB2.free 5; have B2 := Lib.hid hB2; have O2 := Lib.hid ho2; have G2 := Lib.hid hg2; clear ho2 hg2 hor2 hB2)
  go_end0
  have hp := grown_put w2 ⟨B, 5, none⟩ (.slice A2 (n + 1) c2)
  refine ⟨.slice A2 (n + 1) c2, rfl, ?_, own_kept O2.out hp (fun b hb => by injection hb with hb; subst hb; exact row_ne8 B2.out O2.out (by decide)), ?_⟩
  · have := B2.out.put 5 (.slice A2 (n + 1) c2)
    simpa [BagAt] using this
  · have h1 : Below base w (w.alloc (.cells #[.slice A l c] 22)) := (Below.refl _ _).alloc (by omega) _
    exact below_put (h1.grown G2.out (by have := h1.size; omega) (fun b hb => (O.out.lt b hb).1)) _ _ hb
set_option maxHeartbeats 1600000 in
set_option maxRecDepth 100000 in
theorem apart_any (w : World) (B base L K c : Nat) (V : Nat → Value) (n : Nat → Nat) (X : Nat → List Int) (hB : BagAt w B (.slice (some ⟨L, 0, none⟩) K c)) (hL : LAt w L K V) (hF : Fam w base K V n X) (hA : Apt K V V) (hK : K ≤ 1000) (hn : ∀ k, k < K → n k ≤ 1000000000) (hb : base ≤ w.heap.size) :
    Calls Tryz.prog 20 #[.pointer (some ⟨B, 0, none⟩)] w fun e w' => e = .returned (.bool true) ∧ Below base w w' := by
  have HL := Lib.hid hL
  have HF := Lib.hid hF
  have K0 := Lib.hid hB
  have S0 := Lib.hid (Bel.refl (w := w) hb)
  have q0 := hB.cell (i := 0) rfl
  clear hB hL hF
  go_enter Tryz.func20, Tryz.ntmps20
  go_wp2_with fail
  refine (flatLimbs_nil w).mono ?_
  rintro ev w1 ⟨rfl, hb1⟩
  have K1 := Lib.hid (K0.out.below hb1 K0.out.lt)
  have S1 := Lib.hid (S0.out.below hb1)
  have HL1 := Lib.hid (HL.out.below hb1)
  have HF1 := Lib.hid (HF.out.below hb1)
  have q1 := K1.out.cell (i := 1) (v := .slice none 0 0) rfl
  clear hb1 q0 K0 S0 HL HF
  go_wp2_with fail
  refine (flatWords_nil w1).mono ?_
  rintro ev w2 ⟨rfl, hb2⟩
  have K2 := Lib.hid (K1.out.below hb2 K1.out.lt)
  have S2 := Lib.hid (S1.out.below hb2)
  have HL2 := Lib.hid (HL1.out.below hb2)
  have HF2 := Lib.hid (HF1.out.below hb2)
  have q2 := K2.out.cell (i := 2) (v := .slice none 0 0) rfl
  clear hb2 q1 K1 S1 HL1 HF1
  go_wp2_with fail
  refine (flatInts_nil w2).mono ?_
  rintro ev w3 ⟨rfl, hb3⟩
  have K3 := Lib.hid (K2.out.below hb3 K2.out.lt)
  have S3 := Lib.hid (S2.out.below hb3)
  have HL3 := Lib.hid (HL2.out.below hb3)
  have HF3 := Lib.hid (HF2.out.below hb3)
  have q3 := K3.out.cell (i := 3) (v := .slice none 0 0) rfl
  clear hb3 q2 K2 S2 HL2 HF2
  go_wp2_with fail
  refine (flatLongs_nil w3).mono ?_
  rintro ev w4 ⟨rfl, hb4⟩
  have K4 := Lib.hid (K3.out.below hb4 K3.out.lt)
  have S4 := Lib.hid (S3.out.below hb4)
  have HL4 := Lib.hid (HL3.out.below hb4)
  have HF4 := Lib.hid (HF3.out.below hb4)
  have q4 := K4.out.cell (i := 4) (v := .slice none 0 0) rfl
  clear hb4 q3 K3 S3 HL3 HF3
  go_wp2_with fail
  refine (flatTexts_nil w4).mono ?_
  rintro ev w5 ⟨rfl, hb5⟩
  have K5 := Lib.hid (K4.out.below hb5 K4.out.lt)
  have S5 := Lib.hid (S4.out.below hb5)
  have HL5 := Lib.hid (HL4.out.below hb5)
  have HF5 := Lib.hid (HF4.out.below hb5)
  have q5 := K5.out.cell (i := 5) (v := .slice (some ⟨L, 0, none⟩) K c) rfl
  clear hb5 q4 K4 S4 HL4 HF4
  go_wp2_with fail
  refine (flatBytes_any w5 base L K c V n X HL5.out HF5.out hA hK hn S5.out.le).mono ?_
  rintro ev w6 ⟨rfl, hb6⟩
  have K6 := Lib.hid (hb6.2.2 _ _ _ K5.out (by decide))
  have S6 := Lib.hid (show Bel base w w6 from ⟨S5.out.1.trans hb6.1, hb, fun g t cs hg ht => hb6.2.2 g t cs (S5.out.2.2 g t cs hg ht) ht⟩)
  have q6 := K6.out.cell (i := 6) (v := .slice none 0 0) rfl
  clear hb6 q5 K5 S5 HL5 HF5
  go_wp2_with fail
  refine (flatTreeKeys_nil w6).mono ?_
  rintro ev w7 ⟨rfl, hb7⟩
  have K7 := Lib.hid (K6.out.below hb7 K6.out.lt)
  have S7 := Lib.hid (S6.out.below hb7)
  have q7 := K7.out.cell (i := 7) (v := .slice none 0 0) rfl
  clear hb7 q6 K6 S6
  go_wp2_with fail
  refine (flatPieces_nil w7).mono ?_
  rintro ev w8 ⟨rfl, hb8⟩
  have K8 := Lib.hid (K7.out.below hb8 K7.out.lt)
  have S8 := Lib.hid (S7.out.below hb8)
  have q8 := K8.out.cell (i := 8) (v := .slice none 0 0) rfl
  clear hb8 q7 K7 S7
  go_wp2_with fail
  refine (flatFates_nil w8).mono ?_
  rintro ev w9 ⟨rfl, hb9⟩
  have K9 := Lib.hid (K8.out.below hb9 K8.out.lt)
  have S9 := Lib.hid (S8.out.below hb9)
  have q9 := K9.out.cell (i := 9) (v := .slice none 0 0) rfl
  clear hb9 q8 K8 S8
  go_wp2_with fail
  refine (flatFrames_nil w9).mono ?_
  rintro ev w10 ⟨rfl, hb10⟩
  have K10 := Lib.hid (K9.out.below hb10 K9.out.lt)
  have S10 := Lib.hid (S9.out.below hb10)
  have q10 := K10.out.cell (i := 10) (v := .slice none 0 0) rfl
  clear hb10 q9 K9 S9
  go_wp2_with fail
  refine (flatPlaces_nil w10).mono ?_
  rintro ev w11 ⟨rfl, hb11⟩
  have K11 := Lib.hid (K10.out.below hb11 K10.out.lt)
  have S11 := Lib.hid (S10.out.below hb11)
  have q11 := K11.out.cell (i := 11) (v := .slice none 0 0) rfl
  clear hb11 q10 K10 S10
  go_wp2_with fail
  refine (flatEntries_nil w11).mono ?_
  rintro ev w12 ⟨rfl, hb12⟩
  have K12 := Lib.hid (K11.out.below hb12 K11.out.lt)
  have S12 := Lib.hid (S11.out.below hb12)
  have q12 := K12.out.cell (i := 12) (v := .slice none 0 0) rfl
  clear hb12 q11 K11 S11
  go_wp2_with fail
  refine (flatNodes_nil w12).mono ?_
  rintro ev w13 ⟨rfl, hb13⟩
  have K13 := Lib.hid (K12.out.below hb13 K12.out.lt)
  have S13 := Lib.hid (S12.out.below hb13)
  have q13 := K13.out.cell (i := 13) (v := .slice none 0 0) rfl
  clear hb13 q12 K12 S12
  go_wp2_with fail
  refine (flatItems_nil w13).mono ?_
  rintro ev w14 ⟨rfl, hb14⟩
  have K14 := Lib.hid (K13.out.below hb14 K13.out.lt)
  have S14 := Lib.hid (S13.out.below hb14)
  have q14 := K14.out.cell (i := 14) (v := .slice none 0 0) rfl
  clear hb14 q13 K13 S13
  go_wp2_with fail
  refine (flatCounts_nil w14).mono ?_
  rintro ev w15 ⟨rfl, hb15⟩
  have K15 := Lib.hid (K14.out.below hb15 K14.out.lt)
  have S15 := Lib.hid (S14.out.below hb15)
  have q15 := K15.out.cell (i := 15) (v := .slice none 0 0) rfl
  clear hb15 q14 K14 S14
  go_wp2_with fail
  refine (flatFreshes_nil w15).mono ?_
  rintro ev w16 ⟨rfl, hb16⟩
  have K16 := Lib.hid (K15.out.below hb16 K15.out.lt)
  have S16 := Lib.hid (S15.out.below hb16)
  have q16 := K16.out.cell (i := 16) (v := .slice none 0 0) rfl
  clear hb16 q15 K15 S15
  go_wp2_with fail
  refine (flatPuts_nil w16).mono ?_
  rintro ev w17 ⟨rfl, hb17⟩
  have K17 := Lib.hid (K16.out.below hb17 K16.out.lt)
  have S17 := Lib.hid (S16.out.below hb17)
  have q17 := K17.out.cell (i := 17) (v := .slice none 0 0) rfl
  clear hb17 q16 K16 S16
  go_wp2_with fail
  refine (flatOps_nil w17).mono ?_
  rintro ev w18 ⟨rfl, hb18⟩
  have K18 := Lib.hid (K17.out.below hb18 K17.out.lt)
  have S18 := Lib.hid (S17.out.below hb18)
  have q18 := K18.out.cell (i := 18) (v := .slice none 0 0) rfl
  clear hb18 q17 K17 S17
  go_wp2_with fail
  refine (flatSteps_nil w18).mono ?_
  rintro ev w19 ⟨rfl, hb19⟩
  have K19 := Lib.hid (K18.out.below hb19 K18.out.lt)
  have S19 := Lib.hid (S18.out.below hb19)
  have q19 := K19.out.cell (i := 19) (v := .slice none 0 0) rfl
  clear hb19 q18 K18 S18
  go_wp2_with fail
  refine (flatStats_nil w19).mono ?_
  rintro ev w20 ⟨rfl, hb20⟩
  have K20 := Lib.hid (K19.out.below hb20 K19.out.lt)
  have S20 := Lib.hid (S19.out.below hb20)
  have q20 := K20.out.cell (i := 20) (v := .slice none 0 0) rfl
  clear hb20 q19 K19 S19
  go_wp2_with fail
  refine (flatTales_nil w20).mono ?_
  rintro ev w21 ⟨rfl, hb21⟩
  have K21 := Lib.hid (K20.out.below hb21 K20.out.lt)
  have S21 := Lib.hid (S20.out.below hb21)
  go_wp2
  go_ret
  exact ⟨rfl, S21.out.1⟩
theorem LAt.of_own {w : World} {b g K c : Nat} {V : Nat → Value} (h : w.ownsRow b 22 1 (.slice (some ⟨g, 0, none⟩) K c) K ((List.range K).map V)) : LAt w g K V := by
  rcases h.2 with ⟨h0, _⟩ | ⟨g', cap, cur, hv, hb, hg, hnc, hcm, hcs, ht⟩
  · cases h0
  · injection hv with a1 a2 a3
    injection a1 with a1
    injection a1 with a1
    subst a1
    refine ⟨cur, hg, fun k hk => ?_⟩
    have h3 : (cur.toList.take (K * 1))[k]? = ((List.range K).map V)[k]? := by rw [ht]
    rw [List.getElem?_take_of_lt (by omega)] at h3
    simpa [hk] using h3
def ApI (B L K : Nat) (V : Nat → Value) (w : World) (gk : Nat) (kv : Value) (wr : World) : Prop :=
  ∃ (k : Nat) (v : Value), k + gk = K ∧ kv = .int .i64 (k : Int) ∧ BagAt wr B v ∧ wr.ownsRow B 22 1 v k ((List.range k).map V) ∧ Below w.heap.size w wr
set_option maxHeartbeats 1600000 in
set_option maxRecDepth 100000 in
theorem apartBytes_any (w : World) (base L K c : Nat) (V : Nat → Value) (n : Nat → Nat) (X : Nat → List Int) (hL : LAt w L K V) (hF : Fam w base K V n X) (hA : Apt K V V) (hK0 : 0 < K) (hK : K ≤ 1000) (hn : ∀ k, k < K → n k ≤ 1000000000) (hb : base ≤ w.heap.size) :
    Calls Tryz.prog 12 #[.slice (some ⟨L, 0, none⟩) K c] w fun e w' => e = .returned (.bool true) ∧ Below base w w' := by
  have HL := Lib.hid hL
  have HF := Lib.hid hF
  have HA := Lib.hid hA
  have HN := Lib.hid hn
  clear hL hF hA hn
  go_enter Tryz.func12, Tryz.ntmps12
  go_wp2
  obtain ⟨w2, hw2⟩ : ∃ w2, w2 = w.alloc (.cells #[.slice none 0 0, .slice none 0 0, .slice none 0 0, .slice none 0 0, .slice none 0 0, .slice none 0 0, .slice none 0 0, .slice none 0 0, .slice none 0 0, .slice none 0 0, .slice none 0 0, .slice none 0 0, .slice none 0 0, .slice none 0 0, .slice none 0 0, .slice none 0 0, .slice none 0 0, .slice none 0 0, .slice none 0 0, .slice none 0 0, .slice none 0 0] 63) := ⟨_, rfl⟩
  rw [← hw2]
  have L2 := Lib.hid (show Below w.heap.size w w2 by rw [hw2]; exact (Below.refl _ _).alloc (Nat.le_refl _) _)
  have K2 := Lib.hid (show BagAt w2 w.heap.size (.slice none 0 0) by rw [hw2]; exact Blk.made _ _ _)
  clear hw2
  obtain ⟨B, hBE⟩ : ∃ B, B = w.heap.size := ⟨_, rfl⟩
  rw [← hBE] at K2 ⊢
  have HBE := Lib.hid hBE
  clear hBE
  go_loopg [4] K (ApI B L K V w)
  case atStart => exact ⟨0, .slice none 0 0, by omega, rfl, K2.out, ⟨rfl, .inl ⟨rfl, rfl⟩⟩, L2.out⟩
  case round =>
    clear K2 L2
    obtain ⟨k, v, hk, rfl, hbag, ho, hbw⟩ := hrel
    have KB := Lib.hid hbag
    have O := Lib.hid ho
    have BW := Lib.hid hbw
    clear hbag ho hbw
    by_cases hkK : k < K
    · have hkI : (k : Int) < K := by omega
      have cL := (HL.out.below BW.out).cell hkK
      obtain ⟨A, cv, hV, _⟩ := own_slice (HF.out k hkK)
      rw [hV] at cL
      have HV := Lib.hid hV
      clear hV
      go_wp2_with fail
      refine (putBytes_any B B k v _ A (n k) cv wr KB.out O.out (by omega) (Nat.le_refl _)).mono ?_
      rintro ev w4 ⟨v4, rfl, hb4, ho4, hbl4⟩
      have KB4 := Lib.hid hb4
      have O4 := Lib.hid ho4
      have BW4 := Lib.hid (show Below w.heap.size w w4 by rw [← HBE.out]; exact (HBE.out ▸ BW.out).trans hbl4)
      clear hb4 ho4 hbl4
      go_wp2
      go_roundg (gk - 1)
      case measure => omega
      case rel =>
        refine ⟨k + 1, v4, by omega, by go_num, KB4.out, ?_, BW4.out⟩
        rw [List.range_succ, List.map_append, List.map_cons, List.map_nil, HV.out]
        exact O4.out
    · obtain rfl : K = k := by omega
      obtain ⟨g, cc, hv, hbg, hlt2⟩ := O.out.form hK0
      subst hv
      go_wp2_with fail
      refine (apart_any wr B base g K cc V n X KB.out (LAt.of_own O.out) (HF.out.below BW.out) HA.out hK HN.out (Nat.le_trans hb BW.out.size)).mono ?_
      rintro ev w5 ⟨rfl, hb5⟩
      have B5 := Lib.hid ((BW.out.mono hb).trans hb5)
      clear hb5
      go_wp2
      go_ret
      exact ⟨rfl, B5.out⟩
end Go.Proofs.YthmcdohndckniaaGreatDoor
