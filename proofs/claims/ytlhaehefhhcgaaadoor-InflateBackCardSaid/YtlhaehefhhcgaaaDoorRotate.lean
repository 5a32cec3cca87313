/-
  swapRange and rotate of the stable sort, walked at packs.
-/
import Derived.Test.YtlhaehefhhcgaaaDoorSortIns
import Derived.Test.YtlhaehefhhcgaaaDoorSymPlain
namespace Go.Proofs.YtlhaehefhhcgaaaDoor
open Go.RowKit
set_option linter.unusedVariables false

def RowPost (ps : List PV) (w : World) (g n cap : Nat) (e : Ending) (w' : World) : Prop := e = .returned (.tuple #[]) ∧ PRow w' g n cap ps ∧ w.grownBy w' (some g)
def SR (X A Z B Y : List PV) (m : Nat) (w : World) (g n cap : Nat) (iv : Value) (wr : World) : Prop :=
  ∃ k : Nat, k ≤ m ∧ iv = .int .i64 k ∧ PRow wr g n cap (X ++ (B.take k ++ A.drop k) ++ Z ++ (A.take k ++ B.drop k) ++ Y) ∧ w.grownBy wr (some g)
theorem drop_at {α : Type} {l : List α} {k : Nat} (h : k < l.length) : ∃ p, l.drop k = p :: l.drop (k + 1) ∧ l.take (k + 1) = l.take k ++ [p] :=
  ⟨l[k], List.drop_eq_getElem_cons h, List.take_succ_eq_append_getElem h⟩

set_option maxHeartbeats 1600000 in
theorem swapRange_any (X A Z B Y : List PV) (w : World) (g n cap a b m : Nat) (hrow : PRow w g n cap (X ++ A ++ Z ++ B ++ Y)) (ha : a = X.length) (hA : A.length = m) (hB : B.length = m) (hb : b = a + m + Z.length) (hn : n ≤ 35184372088832) :
    Calls Tryd.prog 130 #[.slice (some ⟨g, 0, none⟩) n cap, .int .i64 a, .int .i64 b, .int .i64 m, .func (.func 116) #[] #[]] w (RowPost (X ++ B ++ Z ++ A ++ Y) w g n cap) := by
  have hlen := hrow.len
  simp only [List.length_append] at hlen
  have hbn : b + m ≤ n := by omega
  have hab : a + m ≤ b := by omega
  have HL := Lib.hid hlen
  have HRow := Lib.hid hrow
  have HA := Lib.hid ha
  have HAl := Lib.hid hA
  have HBl := Lib.hid hB
  have HB := Lib.hid hb
  clear hlen hrow ha hA hB hb
  go_enter Tryd.func130, Tryd.ntmps130
  go_wp2
  go_loopw [10] (SR X A Z B Y m w g n cap) (fun i _ => m - (intOf i).toNat)
  case atStart => exact ⟨0, by omega, rfl, by simpa using HRow.out, World.grownBy.refl _ _⟩
  case round =>
    obtain ⟨k, hk, rfl, hr, hg⟩ := hrel
    have HG := Lib.hid hg
    by_cases hlt : k < m
    · have hltI : (k : Int) < m := by omega
      obtain ⟨p, hp1, hp2⟩ := drop_at (l := A) (k := k) (by rw [HAl.out]; exact hlt)
      obtain ⟨q, hq1, hq2⟩ := drop_at (l := B) (k := k) (by rw [HBl.out]; exact hlt)
      have eL : X ++ (B.take k ++ A.drop k) ++ Z ++ (A.take k ++ B.drop k) ++ Y = (X ++ B.take k) ++ p :: ((A.drop (k + 1) ++ Z ++ A.take k) ++ q :: (B.drop (k + 1) ++ Y)) := by rw [hp1, hq1]; simp
      rw [eL] at hr
      have eR : (X ++ B.take k) ++ q :: ((A.drop (k + 1) ++ Z ++ A.take k) ++ p :: (B.drop (k + 1) ++ Y)) = X ++ (B.take (k + 1) ++ A.drop (k + 1)) ++ Z ++ (A.take (k + 1) ++ B.drop (k + 1)) ++ Y := by rw [hp2, hq2]; simp
      have l1 : a + k = (X ++ B.take k).length := by
        have h1 := HA.out
        have h2 := HBl.out
        simp; omega
      have l2 : b + k = (X ++ B.take k).length + 1 + (A.drop (k + 1) ++ Z ++ A.take k).length := by
        have h1 := HA.out
        have h2 := HAl.out
        have h3 := HB.out
        rw [← l1]
        simp; omega
      generalize (X ++ B.take k) = l0 at *
      generalize (A.drop (k + 1) ++ Z ++ A.take k) = l3 at *
      generalize (B.drop (k + 1) ++ Y) = l4 at *
      obtain ⟨c1, c2⟩ := hr.at_ (at1 l0 _ p (a + k) l1)
      obtain ⟨d1, d2⟩ := hr.at_ (at2 l0 l3 l4 p q (b + k) l2)
      have HR := Lib.hid hr
      have HE := Lib.hid eR
      have HL1 := Lib.hid l1
      have HL2 := Lib.hid l2
      have f1 := hr.free ((a + k) * 2)
      have f2 := hr.free ((a + k) * 2 + 1)
      have f3 := hr.free ((b + k) * 2)
      have f4 := hr.free ((b + k) * 2 + 1)
      clear hr hg eL eR hp1 hp2 hq1 hq2 l1 l2
      have i1 : (a : Int) + k < n := by omega
      have i2 : (b : Int) + k < n := by omega
      have t1 : ((a : Int) + k).toNat = a + k := by omega
      have t2 : ((b : Int) + k).toNat = b + k := by omega
      go_wp2
      refine wp_region_qs (fun k' w' => k' = 0 → w'.cell? ⟨g, (a + k) * 2, none⟩ = some (.int .i64 p.1) ∧ w'.cell? ⟨g, (a + k) * 2 + 1, none⟩ = some p.2 ∧ w'.cell? ⟨g, (b + k) * 2, none⟩ = some (.int .i64 q.1) ∧ w'.cell? ⟨g, (b + k) * 2 + 1, none⟩ = some q.2)
        [(0, some 0), (1, some 0), (2, some 0), (3, some 0), (4, some 1), (5, some 1), (6, some 1), (7, some 1), (8, some 0), (9, some 0), (10, some 0), (11, some 0), (12, some 0), (13, some 0), (14, some 1), (15, some 1), (16, some 1), (17, some 1), (18, some 1), (19, some 0), (20, some 0), (21, none), (22, some 1), (23, none)] (by kernel_rfl) (by kernel_rfl) (by kernel_rfl) (by kernel_rfl) (by kernel_rfl) (fun _ _ _ _ _ h => h) (fun _ => ⟨c1, c2, d1, d2⟩) ?_
      simp only [List.map_cons, List.map_nil, List.getD_cons_succ, List.getD_cons_zero]
      (repeat (first | (refine qs_now (v := ?_) (by rfl) ?_ ?_; rotate_left 1; (· (intro w' hS; go_simp; (try (simp only [↓IntWalk.iteOmega]; go_simp)); (try simp (disch := omega) only [IntWalk.i64_in]); try with_reducible rfl)); simp only [Act.put, List.setIfInBounds_toArray, List.set_cons_zero, List.set_cons_succ]) | (refine qs_run (v := ?_) (by rfl) ?_ ?_; rotate_left 1; (· (intro j w' hS; go_simp; (try (simp only [↓IntWalk.iteOmega]; go_simp)); (try simp (disch := omega) only [IntWalk.i64_in]); try with_reducible rfl)); simp only [Act.put, List.setIfInBounds_toArray, List.set_cons_zero, List.set_cons_succ]) | (refine qs_skip (by rfl) ?_; simp only [Act.put, List.setIfInBounds_toArray, List.set_cons_zero, List.set_cons_succ])))
      have hone := HR.out.one
      have HONE := Lib.hid hone
      have hlen := HR.out.len
      have HLEN := Lib.hid hlen
      clear t1 t2 hone hlen c1 c2 d1 d2 f1 f2 f3 f4
      refine qs_act ?_
      refine prow_store rfl (.tmp 36) (.tmp 29) rfl (a + k) q _ rfl rfl rfl HR.out.drew (by rw [HLEN.out]; omega) (HONE.out q (by simp)) ?_
      intro w2 hr2 hg2
      have HR2 := Lib.hid hr2
      have HG2 := Lib.hid ((grown_drew HG.out).trans hg2)
      clear hr2 hg2
      refine wpList_nil ?_
      refine ⟨fun h => (by cases h), ?_⟩
      (repeat (first | (refine qs_now (v := ?_) (by rfl) ?_ ?_; rotate_left 1; (· (intro w' hS; go_simp; (try (simp only [↓IntWalk.iteOmega]; go_simp)); (try simp (disch := omega) only [IntWalk.i64_in]); try with_reducible rfl)); simp only [Act.put, List.setIfInBounds_toArray, List.set_cons_zero, List.set_cons_succ]) | (refine qs_run (v := ?_) (by rfl) ?_ ?_; rotate_left 1; (· (intro j w' hS; go_simp; (try (simp only [↓IntWalk.iteOmega]; go_simp)); (try simp (disch := omega) only [IntWalk.i64_in]); try with_reducible rfl)); simp only [Act.put, List.setIfInBounds_toArray, List.set_cons_zero, List.set_cons_succ]) | (refine qs_skip (by rfl) ?_; simp only [Act.put, List.setIfInBounds_toArray, List.set_cons_zero, List.set_cons_succ])))
      refine qs_act ?_
      refine prow_store rfl (.tmp 37) (.tmp 35) rfl (b + k) p _ rfl rfl rfl HR2.out (by rw [List.length_set, HLEN.out]; omega) (HONE.out p (by simp)) ?_
      intro w3 hr3 hg3
      have HR3 := Lib.hid hr3
      have HG3 := Lib.hid (HG2.out.trans hg3)
      clear hr3 hg3
      refine wpList_nil ?_
      refine ⟨fun h => (by cases h), ?_⟩
      refine qs_nil ?_
      go_wp2
      go_roundw
      case rel =>
        refine ⟨k + 1, by omega, by go_num, ?_, HG3.out⟩
        have := HR3.out
        rw [set2 l0 l3 l4 p q _ _ HL1.out HL2.out, HE.out] at this
        exact this
      case measure => simp [intOf]; omega
    · have hltI : ¬ (k : Int) < m := by omega
      obtain rfl : k = m := by omega
      have HR := Lib.hid hr
      clear hr hg
      go_wp2
      go_end0
      refine ⟨rfl, ?_, HG.out⟩
      have := HR.out
      rw [List.take_of_length_le (by rw [HBl.out]; exact Nat.le_refl _), List.drop_of_length_le (by rw [HAl.out]; exact Nat.le_refl _), List.take_of_length_le (by rw [HAl.out]; exact Nat.le_refl _), List.drop_of_length_le (by rw [HBl.out]; exact Nat.le_refl _)] at this
      simpa using this

/-- Between two turns: what has its place lies left and right, P and Q are still to be turned. -/
def RT (T : List PV) (m : Nat) (w : World) (g n cap : Nat) (iv jv : Value) (wr : World) : Prop :=
  ∃ (X P Q Y : List PV), iv = .int .i64 P.length ∧ jv = .int .i64 Q.length ∧ P ≠ [] ∧ Q ≠ [] ∧ m = X.length + P.length ∧ T = X ++ Q ++ P ++ Y ∧ PRow wr g n cap (X ++ P ++ Q ++ Y) ∧ w.grownBy wr (some g)
set_option maxHeartbeats 1600000 in
theorem rotate_any (X U V Y : List PV) (w : World) (g n cap a m b : Nat) (hrow : PRow w g n cap (X ++ U ++ V ++ Y)) (ha : a = X.length) (hm : m = a + U.length) (hb : b = m + V.length) (hU : U ≠ []) (hV : V ≠ []) (hn : n ≤ 35184372088832) :
    Calls Tryd.prog 129 #[.slice (some ⟨g, 0, none⟩) n cap, .int .i64 a, .int .i64 m, .int .i64 b, .func (.func 116) #[] #[]] w (RowPost (X ++ V ++ U ++ Y) w g n cap) := by
  have hlen := hrow.len
  simp only [List.length_append] at hlen
  have hbn : b ≤ n := by omega
  have hmb : m ≤ b := by omega
  have ham : a ≤ m := by omega
  have HRow := Lib.hid hrow
  have HA := Lib.hid ha
  have HM := Lib.hid hm
  have HB := Lib.hid hb
  have HU := Lib.hid hU
  have HV := Lib.hid hV
  clear hlen hrow ha hm hb hU hV
  go_enter Tryd.func129, Tryd.ntmps129
  go_wp2
  go_loopw [10, 11] (RT (X ++ V ++ U ++ Y) m w g n cap) (fun i j _ => (intOf i).toNat + (intOf j).toNat)
  case atStart =>
    refine ⟨X, U, V, Y, ?_, ?_, HU.out, HV.out, ?_, rfl, HRow.out, World.grownBy.refl _ _⟩
    · have h1 := HM.out
      rw [show (m : Int) - a = U.length from by omega]
    · have h1 := HB.out
      rw [show (b : Int) - m = V.length from by omega]
    · rw [HM.out, HA.out]
  case round =>
    obtain ⟨X1, P, Q, Y1, rfl, rfl, hP, hQ, hm1, hT, hr, hg⟩ := hrel
    have hP0 : 0 < P.length := List.length_pos_iff.2 hP
    have hQ0 : 0 < Q.length := List.length_pos_iff.2 hQ
    have hl := hr.len
    simp only [List.length_append] at hl
    have hPn : P.length ≤ m := by omega
    have hQn : m + Q.length ≤ n := by omega
    have HM1 := Lib.hid hm1
    have HT := Lib.hid hT
    have HR := Lib.hid hr
    have HG := Lib.hid hg
    clear hP hQ hl hm1 hT hr hg
    rcases Nat.lt_trichotomy P.length Q.length with hlt | heq | hgt
    · have h1 : ¬ (P.length : Int) = Q.length := by omega
      have h2 : ¬ (Q.length : Int) < P.length := by omega
      have h2' : ¬ Q.length < P.length := by omega
      have HQs : Hid (Q = Q.take (Q.length - P.length) ++ Q.drop (Q.length - P.length)) := (List.take_append_drop _ _).symm
      have HQl : Hid ((Q.drop (Q.length - P.length)).length = P.length) := by show _ = _; simp; omega
      have HQl1 : Hid ((Q.take (Q.length - P.length)).length = Q.length - P.length) := by show _ = _; simp
      go_wp2_with fail
      have h3 := swapRange_any X1 P (Q.take (Q.length - P.length)) (Q.drop (Q.length - P.length)) Y1 wr g n cap (m - P.length) (m + Q.length - P.length) P.length
        (by have := HR.out; rw [HQs.out] at this; simpa using this) (by have := HM1.out; omega) rfl HQl.out (by rw [HQl1.out]; omega) hn
      have e1 : ((m - P.length : Nat) : Int) = m - P.length := by omega
      have e2 : ((m + Q.length - P.length : Nat) : Int) = m + Q.length - P.length := by omega
      rw [e1, e2] at h3
      refine h3.mono ?_
      clear h3
      rintro ev w1 ⟨rfl, hr1, hg1⟩
      have HR1 := Lib.hid hr1
      have HG1 := Lib.hid (HG.out.trans hg1)
      clear hr1 hg1
      go_wp2
      go_roundw
      case rel =>
        refine ⟨X1, Q.drop (Q.length - P.length), Q.take (Q.length - P.length), P ++ Y1, ?_, ?_, ?_, ?_, ?_, ?_, ?_, HG1.out⟩
        · rw [HQl.out]
        · rw [HQl1.out]; congr 1; omega
        · intro h; have := HQl.out; rw [h] at this; simp at this; omega
        · intro h; have := HQl1.out; rw [h] at this; simp at this; omega
        · rw [HQl.out]; exact HM1.out
        · have := HT.out
          rw [HQs.out] at this
          rw [this]; simp
        · simpa using HR1.out
      case measure => simp [intOf]; omega
    · have h1 : (P.length : Int) = Q.length := by omega
      have HE := Lib.hid heq
      have hd : ((P.length : Int) != Q.length) = false := by simp [heq]
      clear heq h1
      go_wp2_with fail
      have h3 := swapRange_any X1 P [] Q Y1 wr g n cap (m - P.length) m P.length (by simpa using HR.out) (by have := HM1.out; omega) rfl HE.out.symm (by simp; omega) hn
      have e1 : ((m - P.length : Nat) : Int) = m - P.length := by omega
      rw [e1] at h3
      simp only [List.append_nil] at h3
      refine h3.mono ?_
      clear h3
      rintro ev w1 ⟨rfl, hr1, hg1⟩
      have HR1 := Lib.hid hr1
      have HG1 := Lib.hid (HG.out.trans hg1)
      clear hr1 hg1
      go_wp2
      go_end0
      exact ⟨rfl, by rw [HT.out]; exact HR1.out, HG1.out⟩
    · have h1 : ¬ (P.length : Int) = Q.length := by omega
      have h2 : (Q.length : Int) < P.length := by omega
      have HPs : Hid (P = P.take Q.length ++ P.drop Q.length) := (List.take_append_drop _ _).symm
      have HPl : Hid ((P.take Q.length).length = Q.length) := by show _ = _; simp; omega
      have HPl1 : Hid ((P.drop Q.length).length = P.length - Q.length) := by show _ = _; simp
      go_wp2_with fail
      have h3 := swapRange_any X1 (P.take Q.length) (P.drop Q.length) Q Y1 wr g n cap (m - P.length) m Q.length
        (by have := HR.out; rw [HPs.out] at this; simpa using this) (by have := HM1.out; omega) HPl.out rfl (by rw [HPl1.out]; omega) hn
      have e1 : ((m - P.length : Nat) : Int) = m - P.length := by omega
      rw [e1] at h3
      refine h3.mono ?_
      clear h3
      rintro ev w1 ⟨rfl, hr1, hg1⟩
      have HR1 := Lib.hid hr1
      have HG1 := Lib.hid (HG.out.trans hg1)
      clear hr1 hg1
      go_wp2
      go_roundw
      case rel =>
        refine ⟨X1 ++ Q, P.drop Q.length, P.take Q.length, Y1, ?_, ?_, ?_, ?_, ?_, ?_, ?_, HG1.out⟩
        · rw [HPl1.out]; congr 1; omega
        · rw [HPl.out]
        · intro h; have := HPl1.out; rw [h] at this; simp at this; omega
        · intro h; have := HPl.out; rw [h] at this; simp at this; omega
        · rw [HPl1.out, List.length_append]; have := HM1.out; omega
        · have := HT.out
          rw [HPs.out] at this
          rw [this]; simp
        · exact HR1.out
      case measure => simp [intOf]; omega
end Go.Proofs.YtlhaehefhhcgaaaDoor
