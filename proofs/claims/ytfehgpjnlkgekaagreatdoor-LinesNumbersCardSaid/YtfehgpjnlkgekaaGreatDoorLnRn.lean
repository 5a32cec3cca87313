/-
  the document's digit, number: walked.
-/
import Derived.Test.YtfehgpjnlkgekaaGreatDoorLnRw
namespace Go.Proofs.YtfehgpjnlkgekaaGreatDoor
open Go.RowKit
set_option linter.unusedVariables false
set_option linter.unusedSimpArgs false

def digV (c : UInt8) : Int := match hexV c with
  | some x => (x : Int)
  | none => 16
theorem rdigit_any (c : UInt8) (w : World) : Calls Tryz.prog 44 #[.int .u8 (c.toNat : Int)] w fun e w' => e = .returned (.int .u8 (digV c)) ∧ w' = w := by
  have hc : c.toNat < 256 := c.toNat_lt
  have HV := Lib.hid (show digV c = if 48 ≤ c.toNat ∧ c.toNat ≤ 57 then (c.toNat : Int) - 48 else if 97 ≤ c.toNat ∧ c.toNat ≤ 102 then (c.toNat : Int) - 87 else 16 by
    unfold digV hexV
    by_cases a : 48 ≤ c.toNat ∧ c.toNat ≤ 57
    · rw [if_pos a, if_pos a]; simp only; omega
    · rw [if_neg a, if_neg a]
      by_cases b : 97 ≤ c.toNat ∧ c.toNat ≤ 102
      · rw [if_pos b, if_pos b]; simp only; omega
      · rw [if_neg b, if_neg b])
  generalize c.toNat = n at *
  generalize digV c = D at *
  rcases (by omega : n < 48 ∨ (48 ≤ n ∧ n ≤ 57) ∨ (58 ≤ n ∧ n < 97) ∨ (97 ≤ n ∧ n ≤ 102) ∨ 103 ≤ n) with h | h | h | h | h
  · have a1 : ¬ (48 : Int) ≤ n := by omega
    have a2 : ¬ (97 : Int) ≤ n := by omega
    have e : D = 16 := by rw [HV.out, if_neg (by omega), if_neg (by omega)]
    subst e
    go_enter Tryz.func44, Tryz.ntmps44
    go_wp2
    go_ret
    exact ⟨rfl, rfl⟩
  · obtain ⟨h1, h2⟩ := h
    have a1 : (48 : Int) ≤ n := by omega
    have a2 : (n : Int) ≤ 57 := by omega
    have e : D = (n : Int) - 48 := by rw [HV.out, if_pos ⟨h1, h2⟩]
    subst e
    go_enter Tryz.func44, Tryz.ntmps44
    go_wp2
    go_ret
    exact ⟨rfl, rfl⟩
  · obtain ⟨h1, h2⟩ := h
    have a1 : (48 : Int) ≤ n := by omega
    have a2 : ¬ (n : Int) ≤ 57 := by omega
    have a3 : ¬ (97 : Int) ≤ n := by omega
    have e : D = 16 := by rw [HV.out, if_neg (by omega), if_neg (by omega)]
    subst e
    go_enter Tryz.func44, Tryz.ntmps44
    go_wp2
    go_ret
    exact ⟨rfl, rfl⟩
  · obtain ⟨h1, h2⟩ := h
    have a1 : (48 : Int) ≤ n := by omega
    have a2 : ¬ (n : Int) ≤ 57 := by omega
    have a3 : (97 : Int) ≤ n := by omega
    have a4 : (n : Int) ≤ 102 := by omega
    have e : D = (n : Int) - 87 := by rw [HV.out, if_neg (by omega), if_pos ⟨h1, h2⟩]
    subst e
    go_enter Tryz.func44, Tryz.ntmps44
    go_wp2
    go_ret
    exact ⟨congrArg (fun x => Ending.returned (.int .u8 x)) (by omega), rfl⟩
  · have a1 : (48 : Int) ≤ n := by omega
    have a2 : ¬ (n : Int) ≤ 57 := by omega
    have a3 : (97 : Int) ≤ n := by omega
    have a4 : ¬ (n : Int) ≤ 102 := by omega
    have e : D = 16 := by rw [HV.out, if_neg (by omega), if_neg (by omega)]
    subst e
    go_enter Tryz.func44, Tryz.ntmps44
    go_wp2
    go_ret
    exact ⟨rfl, rfl⟩
/-! ### A number -/
def rnD (sl : Nat) (D : List UInt8) : Option Int :=
  if D = [] ∨ (D.head? = some 48 ∧ (1 < D.length ∨ 1 < sl)) then none else
  match goR 0 D with
  | none => none
  | some n => if D.length < sl then some n else if -9223372036854775808 < n then some (-n) else none
theorem refNum_rn (l : List UInt8) : refNum l = rnD l.length (if l.head? = some 45 then l.tail else l) := rfl
def RNum (r : Option Int) (w : World) (e : Ending) (w' : World) : Prop := w' = w ∧ match r with
  | some v => e = .returned (.tuple #[.int .i64 v, .bool true])
  | none => ∃ v, e = .returned (.tuple #[.int .i64 v, .bool false])
def RnI (D : List UInt8) (n : Nat) (w : World) (k : Nat) (nv iv : Value) (wr : World) : Prop :=
  ∃ (i : Nat) (z : Int), iv = .int .i64 ((i : Nat) : Int) ∧ nv = .int .i64 z ∧ i ≤ n ∧ i + k ≤ n ∧ n ≤ i + k ∧ -9223372036854775808 ≤ z ∧ z ≤ 0 ∧ goR 0 D = goR z (D.drop i) ∧ wr = w
set_option maxRecDepth 100000 in
set_option maxHeartbeats 3200000 in
theorem rnumber_any (s : ByteArray) (w : World) (hs : s.size ≤ 2000000) :
    Calls Tryz.prog 21 #[.string s] w (RNum (numL s.data.toList) w) := by
  rw [← ref_num, refNum_rn]
  have HL := Lib.hid (len_ba s)
  rw [HL.out]
  by_cases hs0 : 0 < s.size
  · have hs0I : (0 : Int) < (s.size : Int) := by omega
    have gs := ba_get s 0 hs0
    have hhd : s.data.toList.head? = some (s.data.toList.getD 0 0) := by
      obtain ⟨c, r, e⟩ := List.exists_cons_of_ne_nil (l := s.data.toList) (fun h => by have := HL.out; rw [h] at this; simp at this; omega)
      rw [e]; rfl
    by_cases h45 : s.data.toList.getD 0 0 = 45
    · rw [hhd, h45, if_pos rfl]
      rw [h45] at gs
      have e45 : ((((45 : UInt8).toNat : Nat) : Int) == 45) = true := by decide
      obtain ⟨d, hd⟩ : ∃ d, d = s.extract 1 s.size := ⟨_, rfl⟩
      obtain ⟨D, hD⟩ : ∃ D, D = s.data.toList.tail := ⟨_, rfl⟩
      have HDd := Lib.hid (show D = d.data.toList by
        rw [hD, hd, sub_str s _ rfl 1 s.size, List.take_of_length_le (Nat.le_of_eq HL.out), List.drop_one])
      have HDl := Lib.hid (show D.length = d.size by rw [HDd.out, len_ba])
      have hdl : d.size + 1 = s.size := by
        have := HDl.out
        rw [hD, List.length_tail, HL.out] at this
        omega
      have hdl2 : d.size < s.size := by omega
      have hdl3 : d.size ≤ 2000000 := by omega
      rw [← hD]
      clear hD hhd h45 hdl
      go_enter Tryz.func21, Tryz.ntmps21
      go_upto_region 4 with fail
      rw [← hd]
      clear hd gs e45
      by_cases he : d.size = 0
      · have he0 : ((d.size : Int) == 0) = true := by rw [he]; rfl
        have HR := Lib.hid (show rnD s.size D = none by unfold rnD; rw [if_pos (.inl (List.eq_nil_of_length_eq_zero (by rw [HDl.out]; exact he)))])
        clear he
        go_wp2
        go_ret2
        refine ⟨rfl, ?_⟩
        rw [HR.out]
        exact ⟨_, rfl⟩
      · have he0 : ((d.size : Int) == 0) = false := beq_eq_false_iff_ne.2 (by omega)
        have h0 : 0 < d.size := by omega
        have h0I : (0 : Int) < (d.size : Int) := by omega
        have g0 := ba_get d 0 h0
        rw [← HDd.out] at g0
        have hne : D ≠ [] := fun h => by have := HDl.out; rw [h] at this; simp at this; omega
        have HH := Lib.hid (show D.head? = some (D.getD 0 0) by
          obtain ⟨c, r, rfl⟩ := List.exists_cons_of_ne_nil hne
          rfl)
        generalize D.getD 0 0 = c0 at *
        by_cases hbad : c0 = 48 ∧ (1 < d.size ∨ 1 < s.size)
        · have HR := Lib.hid (show rnD s.size D = none by unfold rnD; rw [if_pos (.inr ⟨by rw [HH.out, hbad.1], by rw [HDl.out]; exact hbad.2⟩)])
          obtain ⟨rfl, hb⟩ := hbad
          have e48 : ((((48 : UInt8).toNat : Nat) : Int) == 48) = true := by decide
          by_cases hd1 : 1 < d.size
          · have hd1I : (1 : Int) < (d.size : Int) := by omega
            go_wp2
            go_ret2
            refine ⟨rfl, ?_⟩
            rw [HR.out]
            exact ⟨_, rfl⟩
          · first
              | (exfalso; omega)
              | (have hd1I : ¬ (1 : Int) < (d.size : Int) := by omega
                 have hs1I : (1 : Int) < (s.size : Int) := by omega
                 go_wp2
                 go_ret2
                 refine ⟨rfl, ?_⟩
                 rw [HR.out]
                 exact ⟨_, rfl⟩)
        · have HN := Lib.hid (show rnD s.size D = match goR 0 D with
            | none => none
            | some n => if d.size < s.size then some n else if -9223372036854775808 < n then some (-n) else none by
            unfold rnD
            rw [if_neg (by
              rintro (h | ⟨h1, h2⟩)
              · exact hne h
              · rw [HH.out] at h1
                injection h1 with h1
                exact hbad ⟨h1, by have := HDl.out; omega⟩), HDl.out])
          have hcase : ((c0.toNat : Int) == 48) = false ∨ (((c0.toNat : Int) == 48) = true ∧ ¬ (1 : Int) < (d.size : Int) ∧ ¬ (1 : Int) < (s.size : Int)) := by
            by_cases h48 : c0 = 48
            · subst h48
              have hb2 : ¬ (1 < d.size ∨ 1 < s.size) := fun h => hbad ⟨rfl, h⟩
              exact .inr ⟨by decide, by omega, by omega⟩
            · exact .inl (beq_eq_false_iff_ne.2 (fun h => h48 (by rw [← u8_back c0, show c0.toNat = 48 by omega]; rfl)))
          clear hbad hne
          rcases hcase with hx | ⟨hx, hx1, hx2⟩
          ·
            go_wp2
            go_loopg [5, 6] d.size (RnI D d.size w)
            case atStart => exact ⟨0, 0, rfl, rfl, by omega, by omega, by omega, by omega, by omega, by rw [List.drop_zero], rfl⟩
            case round =>
              obtain ⟨i, z, rfl, rfl, hi, hk1, hk2, hz1, hz2, hgo, rfl⟩ := hrel
              have HGo := Lib.hid hgo
              clear hgo g0
              by_cases hlt : i < d.size
              · have hltI : (i : Int) < (d.size : Int) := by omega
                have g1 := ba_get d i hlt
                rw [← HDd.out] at g1
                have HDc := Lib.hid (drop_cons8 D (i := i) (by have := HDl.out; omega))
                generalize D.getD i 0 = c at *
                have hc : c.toNat < 256 := c.toNat_lt
                have HGn := Lib.hid (show goR 0 D = if 48 ≤ c.toNat ∧ c.toNat ≤ 57 ∧ ¬ z < Int.tdiv (-9223372036854775808 + ((c.toNat : Int) - 48)) 10 then goR (10 * z - ((c.toNat : Int) - 48)) (D.drop (i + 1)) else none by rw [HGo.out, HDc.out, goR])
                generalize hy : c.toNat = y at *
                by_cases hy1 : 48 ≤ y
                · have y1I : ¬ (y : Int) - 48 < 0 := by omega
                  by_cases hy2 : y ≤ 57
                  · have y2I : ¬ (9 : Int) < (y : Int) - 48 := by omega
                    have ht : Int.tdiv (-9223372036854775808 + ((y : Int) - 48)) 10 = -((9223372036854775808 - ((y : Int) - 48)) / 10) := by
                      rw [show (-9223372036854775808 : Int) + ((y : Int) - 48) = -(9223372036854775808 - ((y : Int) - 48)) by omega, Int.neg_tdiv, Int.tdiv_eq_ediv_of_nonneg (by omega)]
                    have ht1 : Int.tdiv (-9223372036854775808 + ((y : Int) - 48)) 10 ≤ 0 := by rw [ht]; omega
                    have ht2 : -9223372036854775808 ≤ Int.tdiv (-9223372036854775808 + ((y : Int) - 48)) 10 := by rw [ht]; omega
                    by_cases hq : z < Int.tdiv (-9223372036854775808 + ((y : Int) - 48)) 10
                    · have HR := Lib.hid (show rnD s.size D = none by rw [HN.out, HGn.out, if_neg (fun h => h.2.2 hq)])
                      clear ht
                      go_wp2
                      go_ret2
                      refine ⟨rfl, ?_⟩
                      rw [HR.out]
                      exact ⟨_, rfl⟩
                    · have HGm := Lib.hid (show goR 0 D = goR (10 * z - ((y : Int) - 48)) (D.drop (i + 1)) by rw [HGn.out, if_pos ⟨hy1, hy2, hq⟩])
                      have hz3 : -9223372036854775808 ≤ 10 * z - ((y : Int) - 48) := by rw [ht] at hq; omega
                      have hz4 : -9223372036854775808 ≤ 10 * z := by omega
                      clear ht
                      go_wp2
                      go_roundg (gk - 1)
                      case measure => omega
                      case rel =>
                        exact ⟨i + 1, _, by go_num, rfl, by omega, by omega, by omega, hz3, by omega, HGm.out, rfl⟩
                  · have y2I : (9 : Int) < (y : Int) - 48 := by omega
                    have HR := Lib.hid (show rnD s.size D = none by rw [HN.out, HGn.out, if_neg (fun h => hy2 h.2.1)])
                    go_wp2
                    go_ret2
                    refine ⟨rfl, ?_⟩
                    rw [HR.out]
                    exact ⟨_, rfl⟩
                · have y1I : (y : Int) - 48 < 0 := by omega
                  have HR := Lib.hid (show rnD s.size D = none by rw [HN.out, HGn.out, if_neg (fun h => hy1 h.1)])
                  go_wp2
                  go_ret2
                  refine ⟨rfl, ?_⟩
                  rw [HR.out]
                  exact ⟨_, rfl⟩
              · have hltI : ¬ (i : Int) < (d.size : Int) := by omega
                have HGz := Lib.hid (show goR 0 D = some z by rw [HGo.out, List.drop_eq_nil_of_le (by have := HDl.out; omega)]; rfl)
                by_cases hds : d.size < s.size
                · first
                    | exact absurd hds (Nat.lt_irrefl _)
                    | (have hdsI : (d.size : Int) < (s.size : Int) := by omega
                       have HR := Lib.hid (show rnD s.size D = some z by rw [HN.out, HGz.out]; simp only; rw [if_pos hds])
                       go_wp2
                       go_ret2
                       refine ⟨rfl, ?_⟩
                       rw [HR.out]
                       rfl)
                · have hdsI : ¬ (d.size : Int) < (s.size : Int) := by omega
                  by_cases hzm : -9223372036854775808 < z
                  · have HR := Lib.hid (show rnD s.size D = some (-z) by rw [HN.out, HGz.out]; simp only; rw [if_neg hds, if_pos hzm])
                    go_wp2
                    go_ret2
                    refine ⟨rfl, ?_⟩
                    rw [HR.out]
                    rfl
                  · have HR := Lib.hid (show rnD s.size D = none by rw [HN.out, HGz.out]; simp only; rw [if_neg hds, if_neg hzm])
                    go_wp2
                    go_ret2
                    refine ⟨rfl, ?_⟩
                    rw [HR.out]
                    exact ⟨_, rfl⟩
          ·
            go_wp2
            go_loopg [5, 6] d.size (RnI D d.size w)
            case atStart => exact ⟨0, 0, rfl, rfl, by omega, by omega, by omega, by omega, by omega, by rw [List.drop_zero], rfl⟩
            case round =>
              obtain ⟨i, z, rfl, rfl, hi, hk1, hk2, hz1, hz2, hgo, rfl⟩ := hrel
              have HGo := Lib.hid hgo
              clear hgo g0
              by_cases hlt : i < d.size
              · have hltI : (i : Int) < (d.size : Int) := by omega
                have g1 := ba_get d i hlt
                rw [← HDd.out] at g1
                have HDc := Lib.hid (drop_cons8 D (i := i) (by have := HDl.out; omega))
                generalize D.getD i 0 = c at *
                have hc : c.toNat < 256 := c.toNat_lt
                have HGn := Lib.hid (show goR 0 D = if 48 ≤ c.toNat ∧ c.toNat ≤ 57 ∧ ¬ z < Int.tdiv (-9223372036854775808 + ((c.toNat : Int) - 48)) 10 then goR (10 * z - ((c.toNat : Int) - 48)) (D.drop (i + 1)) else none by rw [HGo.out, HDc.out, goR])
                generalize hy : c.toNat = y at *
                by_cases hy1 : 48 ≤ y
                · have y1I : ¬ (y : Int) - 48 < 0 := by omega
                  by_cases hy2 : y ≤ 57
                  · have y2I : ¬ (9 : Int) < (y : Int) - 48 := by omega
                    have ht : Int.tdiv (-9223372036854775808 + ((y : Int) - 48)) 10 = -((9223372036854775808 - ((y : Int) - 48)) / 10) := by
                      rw [show (-9223372036854775808 : Int) + ((y : Int) - 48) = -(9223372036854775808 - ((y : Int) - 48)) by omega, Int.neg_tdiv, Int.tdiv_eq_ediv_of_nonneg (by omega)]
                    have ht1 : Int.tdiv (-9223372036854775808 + ((y : Int) - 48)) 10 ≤ 0 := by rw [ht]; omega
                    have ht2 : -9223372036854775808 ≤ Int.tdiv (-9223372036854775808 + ((y : Int) - 48)) 10 := by rw [ht]; omega
                    by_cases hq : z < Int.tdiv (-9223372036854775808 + ((y : Int) - 48)) 10
                    · have HR := Lib.hid (show rnD s.size D = none by rw [HN.out, HGn.out, if_neg (fun h => h.2.2 hq)])
                      clear ht
                      go_wp2
                      go_ret2
                      refine ⟨rfl, ?_⟩
                      rw [HR.out]
                      exact ⟨_, rfl⟩
                    · have HGm := Lib.hid (show goR 0 D = goR (10 * z - ((y : Int) - 48)) (D.drop (i + 1)) by rw [HGn.out, if_pos ⟨hy1, hy2, hq⟩])
                      have hz3 : -9223372036854775808 ≤ 10 * z - ((y : Int) - 48) := by rw [ht] at hq; omega
                      have hz4 : -9223372036854775808 ≤ 10 * z := by omega
                      clear ht
                      go_wp2
                      go_roundg (gk - 1)
                      case measure => omega
                      case rel =>
                        exact ⟨i + 1, _, by go_num, rfl, by omega, by omega, by omega, hz3, by omega, HGm.out, rfl⟩
                  · have y2I : (9 : Int) < (y : Int) - 48 := by omega
                    have HR := Lib.hid (show rnD s.size D = none by rw [HN.out, HGn.out, if_neg (fun h => hy2 h.2.1)])
                    go_wp2
                    go_ret2
                    refine ⟨rfl, ?_⟩
                    rw [HR.out]
                    exact ⟨_, rfl⟩
                · have y1I : (y : Int) - 48 < 0 := by omega
                  have HR := Lib.hid (show rnD s.size D = none by rw [HN.out, HGn.out, if_neg (fun h => hy1 h.1)])
                  go_wp2
                  go_ret2
                  refine ⟨rfl, ?_⟩
                  rw [HR.out]
                  exact ⟨_, rfl⟩
              · have hltI : ¬ (i : Int) < (d.size : Int) := by omega
                have HGz := Lib.hid (show goR 0 D = some z by rw [HGo.out, List.drop_eq_nil_of_le (by have := HDl.out; omega)]; rfl)
                by_cases hds : d.size < s.size
                · first
                    | exact absurd hds (Nat.lt_irrefl _)
                    | (have hdsI : (d.size : Int) < (s.size : Int) := by omega
                       have HR := Lib.hid (show rnD s.size D = some z by rw [HN.out, HGz.out]; simp only; rw [if_pos hds])
                       go_wp2
                       go_ret2
                       refine ⟨rfl, ?_⟩
                       rw [HR.out]
                       rfl)
                · have hdsI : ¬ (d.size : Int) < (s.size : Int) := by omega
                  by_cases hzm : -9223372036854775808 < z
                  · have HR := Lib.hid (show rnD s.size D = some (-z) by rw [HN.out, HGz.out]; simp only; rw [if_neg hds, if_pos hzm])
                    go_wp2
                    go_ret2
                    refine ⟨rfl, ?_⟩
                    rw [HR.out]
                    rfl
                  · have HR := Lib.hid (show rnD s.size D = none by rw [HN.out, HGz.out]; simp only; rw [if_neg hds, if_neg hzm])
                    go_wp2
                    go_ret2
                    refine ⟨rfl, ?_⟩
                    rw [HR.out]
                    exact ⟨_, rfl⟩
    · rw [hhd, if_neg (by rintro h; injection h with h; exact h45 h)]
      have e45 : (((s.data.toList.getD 0 0).toNat : Int) == 45) = false := beq_eq_false_iff_ne.2 (fun h => h45 (by rw [← u8_back (s.data.toList.getD 0 0), show (s.data.toList.getD 0 0).toNat = 45 by omega]; rfl))
      generalize hc0 : s.data.toList.getD 0 0 = c0 at *
      obtain ⟨D, hD⟩ : ∃ D, D = s.data.toList := ⟨_, rfl⟩
      have HDd := Lib.hid hD
      have HDl := Lib.hid (show D.length = s.size by rw [HDd.out, len_ba])
      rw [← hD]
      clear hD hhd h45 hc0
      go_enter Tryz.func21, Tryz.ntmps21
      go_upto_region 4 with fail
      clear gs e45
      by_cases he : s.size = 0
      · have he0 : ((s.size : Int) == 0) = true := by rw [he]; rfl
        have HR := Lib.hid (show rnD s.size D = none by unfold rnD; rw [if_pos (.inl (List.eq_nil_of_length_eq_zero (by rw [HDl.out]; exact he)))])
        clear he
        go_wp2
        go_ret2
        refine ⟨rfl, ?_⟩
        rw [HR.out]
        exact ⟨_, rfl⟩
      · have he0 : ((s.size : Int) == 0) = false := beq_eq_false_iff_ne.2 (by omega)
        have h0 : 0 < s.size := by omega
        have h0I : (0 : Int) < (s.size : Int) := by omega
        have g0 := ba_get s 0 h0
        rw [← HDd.out] at g0
        have hne : D ≠ [] := fun h => by have := HDl.out; rw [h] at this; simp at this; omega
        have HH := Lib.hid (show D.head? = some (D.getD 0 0) by
          obtain ⟨c, r, rfl⟩ := List.exists_cons_of_ne_nil hne
          rfl)
        generalize D.getD 0 0 = c0 at *
        by_cases hbad : c0 = 48 ∧ (1 < s.size ∨ 1 < s.size)
        · have HR := Lib.hid (show rnD s.size D = none by unfold rnD; rw [if_pos (.inr ⟨by rw [HH.out, hbad.1], by rw [HDl.out]; exact hbad.2⟩)])
          obtain ⟨rfl, hb⟩ := hbad
          have e48 : ((((48 : UInt8).toNat : Nat) : Int) == 48) = true := by decide
          by_cases hd1 : 1 < s.size
          · have hd1I : (1 : Int) < (s.size : Int) := by omega
            go_wp2
            go_ret2
            refine ⟨rfl, ?_⟩
            rw [HR.out]
            exact ⟨_, rfl⟩
          · first
              | (exfalso; omega)
              | (have hd1I : ¬ (1 : Int) < (s.size : Int) := by omega
                 have hs1I : (1 : Int) < (s.size : Int) := by omega
                 go_wp2
                 go_ret2
                 refine ⟨rfl, ?_⟩
                 rw [HR.out]
                 exact ⟨_, rfl⟩)
        · have HN := Lib.hid (show rnD s.size D = match goR 0 D with
            | none => none
            | some n => if s.size < s.size then some n else if -9223372036854775808 < n then some (-n) else none by
            unfold rnD
            rw [if_neg (by
              rintro (h | ⟨h1, h2⟩)
              · exact hne h
              · rw [HH.out] at h1
                injection h1 with h1
                exact hbad ⟨h1, by have := HDl.out; omega⟩), HDl.out])
          have hcase : ((c0.toNat : Int) == 48) = false ∨ (((c0.toNat : Int) == 48) = true ∧ ¬ (1 : Int) < (s.size : Int) ∧ ¬ (1 : Int) < (s.size : Int)) := by
            by_cases h48 : c0 = 48
            · subst h48
              have hb2 : ¬ (1 < s.size ∨ 1 < s.size) := fun h => hbad ⟨rfl, h⟩
              exact .inr ⟨by decide, by omega, by omega⟩
            · exact .inl (beq_eq_false_iff_ne.2 (fun h => h48 (by rw [← u8_back c0, show c0.toNat = 48 by omega]; rfl)))
          clear hbad hne
          rcases hcase with hx | ⟨hx, hx1, hx2⟩
          ·
            go_wp2
            go_loopg [5, 6] s.size (RnI D s.size w)
            case atStart => exact ⟨0, 0, rfl, rfl, by omega, by omega, by omega, by omega, by omega, by rw [List.drop_zero], rfl⟩
            case round =>
              obtain ⟨i, z, rfl, rfl, hi, hk1, hk2, hz1, hz2, hgo, rfl⟩ := hrel
              have HGo := Lib.hid hgo
              clear hgo g0
              by_cases hlt : i < s.size
              · have hltI : (i : Int) < (s.size : Int) := by omega
                have g1 := ba_get s i hlt
                rw [← HDd.out] at g1
                have HDc := Lib.hid (drop_cons8 D (i := i) (by have := HDl.out; omega))
                generalize D.getD i 0 = c at *
                have hc : c.toNat < 256 := c.toNat_lt
                have HGn := Lib.hid (show goR 0 D = if 48 ≤ c.toNat ∧ c.toNat ≤ 57 ∧ ¬ z < Int.tdiv (-9223372036854775808 + ((c.toNat : Int) - 48)) 10 then goR (10 * z - ((c.toNat : Int) - 48)) (D.drop (i + 1)) else none by rw [HGo.out, HDc.out, goR])
                generalize hy : c.toNat = y at *
                by_cases hy1 : 48 ≤ y
                · have y1I : ¬ (y : Int) - 48 < 0 := by omega
                  by_cases hy2 : y ≤ 57
                  · have y2I : ¬ (9 : Int) < (y : Int) - 48 := by omega
                    have ht : Int.tdiv (-9223372036854775808 + ((y : Int) - 48)) 10 = -((9223372036854775808 - ((y : Int) - 48)) / 10) := by
                      rw [show (-9223372036854775808 : Int) + ((y : Int) - 48) = -(9223372036854775808 - ((y : Int) - 48)) by omega, Int.neg_tdiv, Int.tdiv_eq_ediv_of_nonneg (by omega)]
                    have ht1 : Int.tdiv (-9223372036854775808 + ((y : Int) - 48)) 10 ≤ 0 := by rw [ht]; omega
                    have ht2 : -9223372036854775808 ≤ Int.tdiv (-9223372036854775808 + ((y : Int) - 48)) 10 := by rw [ht]; omega
                    by_cases hq : z < Int.tdiv (-9223372036854775808 + ((y : Int) - 48)) 10
                    · have HR := Lib.hid (show rnD s.size D = none by rw [HN.out, HGn.out, if_neg (fun h => h.2.2 hq)])
                      clear ht
                      go_wp2
                      go_ret2
                      refine ⟨rfl, ?_⟩
                      rw [HR.out]
                      exact ⟨_, rfl⟩
                    · have HGm := Lib.hid (show goR 0 D = goR (10 * z - ((y : Int) - 48)) (D.drop (i + 1)) by rw [HGn.out, if_pos ⟨hy1, hy2, hq⟩])
                      have hz3 : -9223372036854775808 ≤ 10 * z - ((y : Int) - 48) := by rw [ht] at hq; omega
                      have hz4 : -9223372036854775808 ≤ 10 * z := by omega
                      clear ht
                      go_wp2
                      go_roundg (gk - 1)
                      case measure => omega
                      case rel =>
                        exact ⟨i + 1, _, by go_num, rfl, by omega, by omega, by omega, hz3, by omega, HGm.out, rfl⟩
                  · have y2I : (9 : Int) < (y : Int) - 48 := by omega
                    have HR := Lib.hid (show rnD s.size D = none by rw [HN.out, HGn.out, if_neg (fun h => hy2 h.2.1)])
                    go_wp2
                    go_ret2
                    refine ⟨rfl, ?_⟩
                    rw [HR.out]
                    exact ⟨_, rfl⟩
                · have y1I : (y : Int) - 48 < 0 := by omega
                  have HR := Lib.hid (show rnD s.size D = none by rw [HN.out, HGn.out, if_neg (fun h => hy1 h.1)])
                  go_wp2
                  go_ret2
                  refine ⟨rfl, ?_⟩
                  rw [HR.out]
                  exact ⟨_, rfl⟩
              · have hltI : ¬ (i : Int) < (s.size : Int) := by omega
                have HGz := Lib.hid (show goR 0 D = some z by rw [HGo.out, List.drop_eq_nil_of_le (by have := HDl.out; omega)]; rfl)
                by_cases hds : s.size < s.size
                · first
                    | exact absurd hds (Nat.lt_irrefl _)
                    | (have hdsI : (s.size : Int) < (s.size : Int) := by omega
                       have HR := Lib.hid (show rnD s.size D = some z by rw [HN.out, HGz.out]; simp only; rw [if_pos hds])
                       go_wp2
                       go_ret2
                       refine ⟨rfl, ?_⟩
                       rw [HR.out]
                       rfl)
                · have hdsI : ¬ (s.size : Int) < (s.size : Int) := by omega
                  by_cases hzm : -9223372036854775808 < z
                  · have HR := Lib.hid (show rnD s.size D = some (-z) by rw [HN.out, HGz.out]; simp only; rw [if_neg hds, if_pos hzm])
                    go_wp2
                    go_ret2
                    refine ⟨rfl, ?_⟩
                    rw [HR.out]
                    rfl
                  · have HR := Lib.hid (show rnD s.size D = none by rw [HN.out, HGz.out]; simp only; rw [if_neg hds, if_neg hzm])
                    go_wp2
                    go_ret2
                    refine ⟨rfl, ?_⟩
                    rw [HR.out]
                    exact ⟨_, rfl⟩
          ·
            go_wp2
            go_loopg [5, 6] s.size (RnI D s.size w)
            case atStart => exact ⟨0, 0, rfl, rfl, by omega, by omega, by omega, by omega, by omega, by rw [List.drop_zero], rfl⟩
            case round =>
              obtain ⟨i, z, rfl, rfl, hi, hk1, hk2, hz1, hz2, hgo, rfl⟩ := hrel
              have HGo := Lib.hid hgo
              clear hgo g0
              by_cases hlt : i < s.size
              · have hltI : (i : Int) < (s.size : Int) := by omega
                have g1 := ba_get s i hlt
                rw [← HDd.out] at g1
                have HDc := Lib.hid (drop_cons8 D (i := i) (by have := HDl.out; omega))
                generalize D.getD i 0 = c at *
                have hc : c.toNat < 256 := c.toNat_lt
                have HGn := Lib.hid (show goR 0 D = if 48 ≤ c.toNat ∧ c.toNat ≤ 57 ∧ ¬ z < Int.tdiv (-9223372036854775808 + ((c.toNat : Int) - 48)) 10 then goR (10 * z - ((c.toNat : Int) - 48)) (D.drop (i + 1)) else none by rw [HGo.out, HDc.out, goR])
                generalize hy : c.toNat = y at *
                by_cases hy1 : 48 ≤ y
                · have y1I : ¬ (y : Int) - 48 < 0 := by omega
                  by_cases hy2 : y ≤ 57
                  · have y2I : ¬ (9 : Int) < (y : Int) - 48 := by omega
                    have ht : Int.tdiv (-9223372036854775808 + ((y : Int) - 48)) 10 = -((9223372036854775808 - ((y : Int) - 48)) / 10) := by
                      rw [show (-9223372036854775808 : Int) + ((y : Int) - 48) = -(9223372036854775808 - ((y : Int) - 48)) by omega, Int.neg_tdiv, Int.tdiv_eq_ediv_of_nonneg (by omega)]
                    have ht1 : Int.tdiv (-9223372036854775808 + ((y : Int) - 48)) 10 ≤ 0 := by rw [ht]; omega
                    have ht2 : -9223372036854775808 ≤ Int.tdiv (-9223372036854775808 + ((y : Int) - 48)) 10 := by rw [ht]; omega
                    by_cases hq : z < Int.tdiv (-9223372036854775808 + ((y : Int) - 48)) 10
                    · have HR := Lib.hid (show rnD s.size D = none by rw [HN.out, HGn.out, if_neg (fun h => h.2.2 hq)])
                      clear ht
                      go_wp2
                      go_ret2
                      refine ⟨rfl, ?_⟩
                      rw [HR.out]
                      exact ⟨_, rfl⟩
                    · have HGm := Lib.hid (show goR 0 D = goR (10 * z - ((y : Int) - 48)) (D.drop (i + 1)) by rw [HGn.out, if_pos ⟨hy1, hy2, hq⟩])
                      have hz3 : -9223372036854775808 ≤ 10 * z - ((y : Int) - 48) := by rw [ht] at hq; omega
                      have hz4 : -9223372036854775808 ≤ 10 * z := by omega
                      clear ht
                      go_wp2
                      go_roundg (gk - 1)
                      case measure => omega
                      case rel =>
                        exact ⟨i + 1, _, by go_num, rfl, by omega, by omega, by omega, hz3, by omega, HGm.out, rfl⟩
                  · have y2I : (9 : Int) < (y : Int) - 48 := by omega
                    have HR := Lib.hid (show rnD s.size D = none by rw [HN.out, HGn.out, if_neg (fun h => hy2 h.2.1)])
                    go_wp2
                    go_ret2
                    refine ⟨rfl, ?_⟩
                    rw [HR.out]
                    exact ⟨_, rfl⟩
                · have y1I : (y : Int) - 48 < 0 := by omega
                  have HR := Lib.hid (show rnD s.size D = none by rw [HN.out, HGn.out, if_neg (fun h => hy1 h.1)])
                  go_wp2
                  go_ret2
                  refine ⟨rfl, ?_⟩
                  rw [HR.out]
                  exact ⟨_, rfl⟩
              · have hltI : ¬ (i : Int) < (s.size : Int) := by omega
                have HGz := Lib.hid (show goR 0 D = some z by rw [HGo.out, List.drop_eq_nil_of_le (by have := HDl.out; omega)]; rfl)
                by_cases hds : s.size < s.size
                · first
                    | exact absurd hds (Nat.lt_irrefl _)
                    | (have hdsI : (s.size : Int) < (s.size : Int) := by omega
                       have HR := Lib.hid (show rnD s.size D = some z by rw [HN.out, HGz.out]; simp only; rw [if_pos hds])
                       go_wp2
                       go_ret2
                       refine ⟨rfl, ?_⟩
                       rw [HR.out]
                       rfl)
                · have hdsI : ¬ (s.size : Int) < (s.size : Int) := by omega
                  by_cases hzm : -9223372036854775808 < z
                  · have HR := Lib.hid (show rnD s.size D = some (-z) by rw [HN.out, HGz.out]; simp only; rw [if_neg hds, if_pos hzm])
                    go_wp2
                    go_ret2
                    refine ⟨rfl, ?_⟩
                    rw [HR.out]
                    rfl
                  · have HR := Lib.hid (show rnD s.size D = none by rw [HN.out, HGz.out]; simp only; rw [if_neg hds, if_neg hzm])
                    go_wp2
                    go_ret2
                    refine ⟨rfl, ?_⟩
                    rw [HR.out]
                    exact ⟨_, rfl⟩
  · have hs0I : ¬ (0 : Int) < (s.size : Int) := by omega
    have hnil : s.data.toList = [] := List.eq_nil_of_length_eq_zero (by rw [HL.out]; omega)
    have he0 : ((s.size : Int) == 0) = true := beq_iff_eq.2 (by omega)
    rw [hnil]
    have HR := Lib.hid (show rnD s.size [] = none by unfold rnD; simp)
    show Calls _ _ _ _ (RNum (rnD s.size []) w)
    go_enter Tryz.func21, Tryz.ntmps21
    go_wp2
    go_ret2
    refine ⟨rfl, ?_⟩
    rw [HR.out]
    exact ⟨_, rfl⟩
end Go.Proofs.YtfehgpjnlkgekaaGreatDoor
