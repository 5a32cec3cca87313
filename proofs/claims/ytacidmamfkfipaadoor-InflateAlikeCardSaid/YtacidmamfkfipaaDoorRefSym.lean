/-
  The document's symbols, read.
-/
import Derived.Test.YtacidmamfkfipaaDoorRefTree
namespace Go.Proofs.YtacidmamfkfipaaDoor
open Go.RowKit Go.Maps
set_option linter.unusedVariables false

theorem pow_nat (n : Nat) : ((2 ^ n : Nat) : Int) = (2 : Int) ^ n := by simp
def RSymPost (base s : Nat) (bs zs : List Int) (p : Nat) (out : List Int) (most e : Int) (w : World) (ev : Ending) (w' : World) : Prop :=
  ∃ v p' e', ev = .returned (.int .i64 ((v : Nat) : Int)) ∧ (v = 0 ∨ v < zs.length) ∧ RefOk w' base s bs p' out most e' ∧ StStep w w' base s s ∧ RTook e (symR (bitsOf bs) zs p) v p' e'
def RSym (base s : Nat) (bs zs : List Int) (p : Nat) (out : List Int) (most : Int) (gt b : Nat) (w : World) (k : Nat) (vv iv : Value) (wr : World) : Prop :=
  ∃ (n : Nat) (v e : Int) (pp : Nat), n + k = 15 ∧ iv = .int .i64 (n : Int) ∧ vv = .int .i64 v ∧ 1 ≤ v ∧ v < 2 ^ (n + 1) ∧ RefOk wr base s bs pp out most e ∧ StStep w wr base s s ∧ Blk wr gt 117 #[.map (some b)] ∧ TreeOk wr b zs ∧
    ((e = 0 ∧ pp = p + n ∧ v = 2 ^ n + codeB ((bitsOf bs).drop p) n ∧ NoHit zs ((bitsOf bs).drop p) n) ∨ (e = 4 ∧ symR (bitsOf bs) zs p = .bad false))
theorem NoHit.succ {zs bt : List Int} {n : Nat} (h : NoHit zs bt n) (hh : hit zs bt (n + 1) = false) : NoHit zs bt (n + 1) := fun l h1 h2 => by
  rcases Nat.lt_or_ge n l with h3 | h3
  · obtain rfl : l = n + 1 := by omega
    exact hh
  · exact h l h1 h3
theorem num_one {bt : List Int} (h01 : Bit01 bt) {p : Nat} (hp : p + 1 ≤ bt.length) : (numOf ((bt.drop p).take 1) : Int) = bt.getD p 0 := by
  have := num_snoc bt p 0 (by omega) (bit_or h01 _)
  simp only [Nat.zero_add, List.take_zero, Nat.add_zero, Int.pow_zero, Int.mul_one] at this
  rw [this]; simp [numOf]
def RSymE (w1 : World) (k : Nat) (vv iv : Value) (wr : World) : Prop := vv = .int .i64 1 ∧ iv = .int .i64 0 ∧ wr = w1
set_option maxHeartbeats 1600000 in
theorem rsymbol_any (base s b : Nat) (bs zs : List Int) (p : Nat) (out : List Int) (most e : Int) (w : World) (h : RefOk w base s bs p out most e) (ht : TreeOk w b zs) (hok : countsOk zs = true) (hB : Bytes bs) (hl : bs.length ≤ 1000000000) :
    Calls Tryd.prog 62 #[.pointer (some ⟨s, 0, none⟩), .agg #[.map (some b)]] w (RSymPost base s bs zs p out most e w) := by
  have H := Lib.hid h
  have HT := Lib.hid ht
  have HBy := Lib.hid hB
  have h3 := h.2.2.1
  have hp := h.1
  have hz288 := len_of hok
  have L1 := Lib.hid ((Below.refl w.heap.size w).alloc (Nat.le_refl _) (.cells #[.map (some b)] 117))
  clear h ht hB
  by_cases he : e = 0
  · subst he
    go_enter Tryd.func62, Tryd.ntmps62
    go_wp2
    obtain ⟨w1, hw1⟩ : ∃ w1, w1 = w.alloc (.cells #[.map (some b)] 117) := ⟨_, rfl⟩
    have K1 := Lib.hid (show Blk w1 w.heap.size 117 #[.map (some b)] by rw [hw1]; exact Blk.made _ _ _)
    rw [← hw1] at L1
    rw [← hw1]
    clear hw1
    have H1 := Lib.hid (H.out.below L1.out)
    have T1 := Lib.hid (HT.out.below L1.out)
    have S1 := Lib.hid (StStep.of_below (s := s) (r := s) L1.out h3)
    clear H HT L1
    go_loopg [5, 6] 15 (RSym base s bs zs p out most w.heap.size b w)
    case atStart => exact ⟨0, 1, 0, p, by omega, rfl, rfl, by omega, by decide, H1.out, S1.out, K1.out, T1.out, .inl ⟨rfl, rfl, rfl, fun l h1 h2 => by omega⟩⟩
    case round =>
      clear H1 T1 S1 K1
      obtain ⟨n, v, e, pp, hn, rfl, rfl, hv1, hv2, hs, hst, hk, htr, hcase⟩ := hrel
      have H := Lib.hid hs
      have S := Lib.hid hst
      have K := Lib.hid hk
      have TR := Lib.hid htr
      have CS := Lib.hid hcase
      have c4 := hs.c4
      have hpp := hs.1
      have hpw : (2 : Int) ^ (n + 1) ≤ 65536 := by
        have : 2 ^ (n + 1) ≤ 2 ^ 16 := Nat.pow_le_pow_right (by omega) (by omega)
        rw [← pow_nat]
        omega
      have hpw2 : (2 : Int) ^ (n + 1 + 1) = 2 * 2 ^ (n + 1) := by rw [Int.pow_succ, Int.mul_comm]
      clear hs hst hk htr hcase
      rcases CS.out with ⟨rfl, rfl, hv, hno⟩ | ⟨rfl, hbad⟩
      · have HV := Lib.hid hv
        have HNo := Lib.hid hno
        clear hv hno CS
        by_cases hlt : n < 15
        · have hltI : (n : Int) < 15 := by omega
          go_wp2_with fail
          refine (rnumber_any base s bs (p + n) out most 0 1 wr H.out HBy.out hl (by omega)).mono ?_
          rintro ev w2 ⟨x, p2, e2, rfl, hx, hs2, st2, tk2, _⟩
          have hx2 : x < 2 := hx
          have H2 := Lib.hid hs2
          have S2 := Lib.hid (S.out.trans st2)
          have K2 := Lib.hid (H.out.keepBlk st2 K.out (by decide) (by decide))
          have T2 := Lib.hid (TR.out.step st2 H.out.sblk)
          have c42 := hs2.c4
          have k2 := K2.out.cell (i := 0) rfl
          have TK := Lib.hid (show (x, p2, e2) = (x, p2, e2) ∧ Took 0 (numR (bitsOf bs) (p + n) 1) x p2 e2 by
            rcases tk2 with ⟨_, h⟩ | ⟨h, _⟩
            · exact ⟨rfl, h⟩
            · exact absurd rfl h)
          clear hs2 st2 tk2 H S K TR c4 hx
          obtain ⟨mm, D, hmap, htd⟩ := T2.out
          have MP := Lib.hid hmap
          have TD := Lib.hid htd
          clear hmap htd
          have HWF := Lib.hid (show (Lit.int .i64 (2 * v + (x : Int))).wf = true from WalkArith.wf_i64 (by omega))
          by_cases hbits : p + n + 1 ≤ 8 * bs.length
          · have hny := num_yes (bt := bitsOf bs) (p := p + n) (n := 1) (by rw [bitsOf_len]; exact hbits)
            have h2 := TK.out.2
            rw [hny] at h2
            obtain ⟨hxv, hp2, he2⟩ := h2
            subst hp2 he2
            have hone := num_one (bitsOf_01 bs) (p := p + n) (by rw [bitsOf_len]; exact hbits)
            rw [← hxv] at hone
            have hvv : 2 * v + (x : Int) = 2 ^ (n + 1) + codeB ((bitsOf bs).drop p) (n + 1) := by
              rw [HV.out, hone, codeB]
              have : ((bitsOf bs).drop p).getD n 0 = (bitsOf bs).getD (p + n) 0 := by simp
              rw [this, Int.pow_succ]
              omega
            have hcb := codeB_bd ((bitsOf_01 bs).drop p) (n + 1)
            have HVV := Lib.hid hvv
            have TF := Lib.hid (tree_find TD.out ((bitsOf_01 bs).drop p) (l := n + 1) (by omega))
            clear hvv hone hxv hny TK
            by_cases hhit : hit zs ((bitsOf bs).drop p) (n + 1) = true
            · have HS := Lib.hid (symR_some (by rw [bitsOf_len]; omega) HNo.out hhit)
              have HSB := Lib.hid (symR_ok (by rw [bitsOf_len]; exact hp) HS.out)
              have hhas := TF.out.1
              rw [hhit] at hhas
              unfold keyL at hhas
              rw [← HVV.out] at hhas
              go_wp2_with (first
                | (at_lookup; refine wpList_lookup_own_ok_int _ rfl _ _ 115 rfl 3 3 .i64 law_int Tryd.underlying115 Tryd.underlying3 (zero_int _) b mm D rfl MP.out _ _ rfl (keyOf_int_mk Tryd.underlying3 HWF.out) ?_; intro c hat hwc; have HAt := Lib.hid hat; clear hat hwc)
                | fail)
              go_ret
              have hat := HAt.out
              have hc := TF.out.2 c hhit (by unfold keyL; rw [← HVV.out]; exact hat)
              have hnn := sym_nonneg zs ((bitsOf bs).drop p) (n + 1)
              refine ⟨(symAt zs ((bitsOf bs).drop p) (n + 1)).toNat, p + n + 1, 0, ?_, .inr HSB.out.2.2, H2.out, S2.out, .inl ⟨rfl, ?_⟩⟩
              · show Ending.returned (.int .i64 c) = _
                rw [hc, Int.toNat_of_nonneg hnn]
              · rw [HS.out]
                exact ⟨rfl, rfl, rfl⟩
            · have hhit' : hit zs ((bitsOf bs).drop p) (n + 1) = false := by simpa using hhit
              have hhas := TF.out.1
              rw [hhit'] at hhas
              unfold keyL at hhas
              rw [← HVV.out] at hhas
              go_wp2_with (first
                | (at_lookup; refine wpList_lookup_own_ok_int _ rfl _ _ 115 rfl 3 3 .i64 law_int Tryd.underlying115 Tryd.underlying3 (zero_int _) b mm D rfl MP.out _ _ rfl (keyOf_int_mk Tryd.underlying3 HWF.out) ?_; intro c hat hwc; have HAt := Lib.hid hat; clear hat hwc)
                | fail)
              go_roundg (gk - 1)
              case measure => omega
              case rel => exact ⟨n + 1, 2 * v + x, 0, p + n + 1, by omega, by go_num, rfl, by omega, by omega, H2.out, S2.out, K2.out, T2.out, .inl ⟨rfl, by omega, HVV.out, HNo.out.succ hhit'⟩⟩
          · have h2 := TK.out.2
            unfold numR at h2
            rw [if_neg (by rw [bitsOf_len]; exact hbits)] at h2
            obtain ⟨hx0, he2⟩ := h2
            rw [if_pos rfl] at he2
            have he4 : e2 = 4 := he2
            subst he4
            have HBd := Lib.hid (show symR (bitsOf bs) zs p = .bad false from symR_none (fun k hk hk2 => HNo.out k hk (by rw [List.length_drop, bitsOf_len] at hk2; omega)))
            clear he2 TK hx0
            obtain ⟨hs1, hhas⟩ : ∃ hs1, Maps.has D (.int .i64 (2 * v + (x : Int))) = hs1 := ⟨_, rfl⟩
            cases hs1
            all_goals
              go_wp2_with (first
                | (at_lookup; refine wpList_lookup_own_ok_int _ rfl _ _ 115 rfl 3 3 .i64 law_int Tryd.underlying115 Tryd.underlying3 (zero_int _) b mm D rfl MP.out _ _ rfl (keyOf_int_mk Tryd.underlying3 HWF.out) ?_; intro c hat hwc; have HAt := Lib.hid hat; clear hat hwc)
                | fail)
              go_roundg (gk - 1)
              case measure => omega
              case rel => exact ⟨n + 1, 2 * v + x, 4, p2, by omega, by go_num, rfl, by omega, by omega, H2.out, S2.out, K2.out, T2.out, .inr ⟨rfl, HBd.out⟩⟩
        · obtain rfl : n = 15 := by omega
          have HBd := Lib.hid (show symR (bitsOf bs) zs p = .bad false from symR_none (fun k hk _ => by
            rcases Nat.lt_or_ge 15 k with h | h
            · cases hh : hit zs ((bitsOf bs).drop p) k with
              | false => rfl
              | true =>
                have h1 := hit_max (by omega) hh
                have h2 := maxL_hi hok zs.length
                rw [List.take_length] at h2
                omega
            · exact HNo.out k hk h))
          go_wp2_with (go_at_call 38; refine (rfail_any base s bs (p + 15) out most 0 4 wr H.out).mono ?_; rintro ev w2 ⟨rfl, h2', s2, k2⟩; have H2 := Lib.hid h2'; have S2 := Lib.hid (S.out.trans s2); clear h2' s2 k2)
          go_ret
          exact ⟨0, p + 15, 4, rfl, .inl rfl, H2.out, S2.out, .inl ⟨rfl, by rw [HBd.out]; exact ⟨rfl, rfl⟩⟩⟩
      · have HBd := Lib.hid hbad
        clear hbad CS
        by_cases hlt : n < 15
        · have hltI : (n : Int) < 15 := by omega
          go_wp2_with (go_at_call 38; refine (rfail_any base s bs pp out most 4 4 wr H.out).mono ?_; rintro ev w2 ⟨rfl, h2', s2, k2⟩; have H2 := Lib.hid h2'; have S2 := Lib.hid (S.out.trans s2); clear h2' s2 k2)
          go_ret
          exact ⟨0, pp, 4, rfl, .inl rfl, H2.out, S2.out, .inl ⟨rfl, by rw [HBd.out]; exact ⟨rfl, rfl⟩⟩⟩
        · obtain rfl : n = 15 := by omega
          go_wp2_with (go_at_call 38; refine (rfail_any base s bs pp out most 4 4 wr H.out).mono ?_; rintro ev w2 ⟨rfl, h2', s2, k2⟩; have H2 := Lib.hid h2'; have S2 := Lib.hid (S.out.trans s2); clear h2' s2 k2)
          go_ret
          exact ⟨0, pp, 4, rfl, .inl rfl, H2.out, S2.out, .inl ⟨rfl, by rw [HBd.out]; exact ⟨rfl, rfl⟩⟩⟩
  · have d1 : (e == 0) = false := by simpa using he
    have H1 := Lib.hid (H.out.below L1.out)
    have S1 := Lib.hid (StStep.of_below (s := s) (r := s) L1.out h3)
    have c4 := H1.out.c4
    go_enter Tryd.func62, Tryd.ntmps62
    go_wp2
    go_loopg [5, 6] 0 (RSymE (w.alloc (.cells #[.map (some b)] 117)))
    case atStart => exact ⟨rfl, rfl, rfl⟩
    case round =>
      obtain ⟨rfl, rfl, rfl⟩ := hrel
      go_wp2_with (go_at_call 38; refine (rfail_any base s bs p out most e 4 _ H1.out).mono ?_; rintro ev w2 ⟨rfl, h2', s2, k2⟩; have H2 := Lib.hid h2'; have S2 := Lib.hid (S1.out.trans s2); clear h2' s2 k2)
      go_ret
      rw [if_neg he] at H2
      exact ⟨0, p, e, rfl, .inl rfl, H2.out, S2.out, .inr ⟨he, rfl, rfl⟩⟩
end Go.Proofs.YtacidmamfkfipaaDoor
