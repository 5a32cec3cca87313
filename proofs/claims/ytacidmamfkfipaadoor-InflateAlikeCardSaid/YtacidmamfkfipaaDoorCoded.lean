/-
  inflate's coded blocks, walked.
-/
import Derived.Test.YtacidmamfkfipaaDoorMatch
namespace Go.Proofs.YtacidmamfkfipaaDoor
open Go.RowKit
set_option linter.unusedVariables false

theorem matchR_mono {bt ds out a : List Int} {most v p q : Nat} (hp : p ≤ bt.length) (h : matchR bt most ds out v p = .ok a q) : p ≤ q := by
  unfold matchR at h
  split at h
  · cases h
  rcases h1 : numR bt p (lbits.getD v 0).toNat with ⟨x, p1⟩ | b
  · rw [h1] at h
    simp only [Res.bind] at h
    obtain ⟨e1, e2, _⟩ := numR_ok h1
    rcases h2 : symR bt ds p1 with ⟨k, p2⟩ | b
    · rw [h2] at h
      simp only at h
      obtain ⟨f1, f2, _⟩ := symR_ok (by omega) h2
      split at h
      · cases h
      rcases h3 : numR bt p2 (dbits.getD k 0).toNat with ⟨y, p3⟩ | b
      · rw [h3] at h
        simp only at h
        obtain ⟨g1, g2, _⟩ := numR_ok h3
        split at h
        · cases h
        split at h
        · cases h
        injection h with _ h
        omega
      · rw [h3] at h; cases h
    · rw [h2] at h; cases h
  · rw [h1] at h; cases h

def Cod (base s r gx gy : Nat) (bs zs ds : List Int) (most : Nat) (T : Res (List Int)) (w : World) (k : Nat) (wr : World) : Prop :=
  ∃ out p e, StrOk wr base s r bs p out (most : Int) e ∧ StStep w wr base s r ∧ out.length ≤ most ∧ TabsOk wr ∧ DecOk wr gx zs ∧ DecOk wr gy ds ∧
    ((e = 0 ∧ T = symsR (bitsOf bs) most zs ds k out p ∧ 8 * bs.length + 1 ≤ k + p) ∨ (∃ b, e = errOf b ∧ T = .bad b))
def CodE (base s r : Nat) (bs out : List Int) (p most : Nat) (w : World) (k : Nat) (wr : World) : Prop := StrOk wr base s r bs p out (most : Int) 4 ∧ StStep w wr base s r
theorem errOf_ne (b : Bool) : errOf b ≠ 0 := by cases b <;> decide

set_option maxHeartbeats 1600000 in
theorem coded_any (base s r : Nat) (bs zs ds : List Int) (p : Nat) (out : List Int) (most : Nat) (A B : Option Addr) (n m ca cb : Nat) (w : World) (h : StrOk w base s r bs p out (most : Int) 0) (hz : RdI .i64 w A n zs) (hd : RdI .i64 w B m ds) (hn : n ≤ 1000) (hm2 : m ≤ 1000)
    (ht : TabsOk w) (hs5 : 5 ≤ s) (hr5 : 5 ≤ r) (hB : Bytes bs) (hl : bs.length ≤ 1000000000) (hm : most ≤ 65536) (ho : out.length ≤ most) :
    Calls Tryd.prog 29 #[.pointer (some ⟨s, 0, none⟩), .slice A n ca, .slice B m cb] w (VoidPost base s r bs most (codedR (bitsOf bs) most zs ds out p) w) := by
  have H := Lib.hid h
  have HZ := Lib.hid hz
  have HDs := Lib.hid hd
  have HTb := Lib.hid ht
  have HBy := Lib.hid hB
  obtain ⟨_, h2, h3, h4, h5, h6, _⟩ := h
  have hbase : 5 ≤ base := by omega
  clear hz hd ht hB
  go_enter Tryd.func29, Tryd.ntmps29
  go_wp2_with fail
  refine (new_any zs A n ca w HZ.out (by omega)).mono ?_
  rintro ev w1 ⟨hx, hb1⟩
  have L1 := Lib.hid hb1
  have HX := Lib.hid hx
  clear hx hb1
  rcases HX.out with ⟨hx0, rfl⟩ | ⟨hx0, gx, rfl, hgx, hdx⟩
  all_goals
    go_wp2_with fail
    refine (new_any ds B m cb w1 (HDs.out.below L1.out) (by omega)).mono ?_
    rintro ev w2 ⟨hy, hb2⟩
    have L2 := Lib.hid (below_chain L1.out hb2)
    have H2 := Lib.hid (H.out.below L2.out)
    have S2 := Lib.hid (StStep.of_below (s := s) (r := r) L2.out h5)
    have HY := Lib.hid hy
    have HB2 := Lib.hid hb2
    clear hy hb2
  · have HT := Lib.hid (show codedR (bitsOf bs) most zs ds out p = .bad false by unfold codedR; rw [if_neg (by rw [hx0]; simp)])
    rcases HY.out with ⟨hy0, rfl⟩ | ⟨hy0, gy, rfl, hgy, hdy⟩
    all_goals
      clear HX HY
      go_wp2_with (go_at_call 32; refine (fail_any base s r bs p out (most : Int) 0 4 w2 H2.out).mono ?_; rintro ev w5 ⟨rfl, h5', s5, _⟩; have H5 := Lib.hid h5'; have S5 := Lib.hid (S2.out.trans s5); clear h5' s5)
      go_loopg [] 0 (CodE base s r bs out p most w)
      case atStart => exact ⟨H5.out, S5.out⟩
      case round =>
        clear H5 S5
        have HR := Lib.hid hrel
        obtain ⟨⟨_, _, _, _, _, _, vv, q7, _, _⟩, _⟩ := hrel
        have c3 := q7.cell (i := 3) (v := .int .i64 4) rfl
        clear q7
        go_wp2
        go_end0
        exact ⟨p, out, 4, rfl, HR.out.1, HR.out.2, ho, by rw [HT.out]; rfl⟩
  · rcases HY.out with ⟨hy0, rfl⟩ | ⟨hy0, gy, rfl, hgy, hdy⟩
    · have HT := Lib.hid (show codedR (bitsOf bs) most zs ds out p = .bad false by unfold codedR; rw [if_neg (by rw [hy0]; simp)])
      clear HX HY
      go_wp2_with (go_at_call 32; refine (fail_any base s r bs p out (most : Int) 0 4 w2 H2.out).mono ?_; rintro ev w5 ⟨rfl, h5', s5, _⟩; have H5 := Lib.hid h5'; have S5 := Lib.hid (S2.out.trans s5); clear h5' s5)
      go_loopg [] 0 (CodE base s r bs out p most w)
      case atStart => exact ⟨H5.out, S5.out⟩
      case round =>
        clear H5 S5
        have HR := Lib.hid hrel
        obtain ⟨⟨_, _, _, _, _, _, vv, q7, _, _⟩, _⟩ := hrel
        have c3 := q7.cell (i := 3) (v := .int .i64 4) rfl
        clear q7
        go_wp2
        go_end0
        exact ⟨p, out, 4, rfl, HR.out.1, HR.out.2, ho, by rw [HT.out]; rfl⟩
    · have HT := Lib.hid (show codedR (bitsOf bs) most zs ds out p = symsR (bitsOf bs) most zs ds (8 * bs.length + 1) out p by unfold codedR; rw [if_pos ⟨hx0, hy0⟩, bitsOf_len])
      have DX := Lib.hid (hdx.below HB2.out)
      have DY := Lib.hid hdy
      have TB2 := Lib.hid (HTb.out.below L2.out)
      clear HX HY hdx hdy HTb HB2 H HZ HDs
      generalize codedR (bitsOf bs) most zs ds out p = T at *
      go_wp2
      go_loopg [] (8 * bs.length + 1) (Cod base s r gx gy bs zs ds most T w)
      case atStart => exact ⟨out, p, 0, H2.out, S2.out, ho, TB2.out, DX.out, DY.out, .inl ⟨rfl, HT.out, by omega⟩⟩
      case round =>
        clear H2 S2 TB2 DX DY HT L1 L2
        obtain ⟨o1, p1, e1, hs1, st1, ho1, tb1, dx1, dy1, hT⟩ := hrel
        have H1 := Lib.hid hs1
        have S1 := Lib.hid st1
        have TB1 := Lib.hid tb1
        have DX1 := Lib.hid dx1
        have DY1 := Lib.hid dy1
        have HT := Lib.hid hT
        obtain ⟨_, p1l, _, _, _, _, vv, q7, _, _⟩ := hs1
        have c3 := q7.cell (i := 3) (v := .int .i64 e1) rfl
        clear st1 tb1 dx1 dy1 hT q7
        rcases HT.out with ⟨rfl, hT, hk⟩ | ⟨b, rfl, hT⟩
        · obtain ⟨f, rfl⟩ : ∃ f, gk = f + 1 := ⟨gk - 1, by omega⟩
          have HT' := Lib.hid (show T = (symR (bitsOf bs) zs p1).bind fun s p =>
            if s = 256 then .ok o1 p else
            if 256 < s then (matchR (bitsOf bs) most ds o1 (s - 257) p).bind fun out p => symsR (bitsOf bs) most zs ds f out p else
            if most < o1.length + 1 then .bad true else symsR (bitsOf bs) most zs ds f (o1 ++ [(s : Int)]) p from hT)
          clear hT HT
          go_wp2_with fail
          refine (symbol_any base s r gx bs zs p1 o1 (most : Int) 0 wr H1.out DX1.out hx0 HBy.out hl).mono ?_
          rintro ev w2 ⟨v, p2, e2, rfl, hv, hs2, st2, tk2⟩
          have hv288 : v ≤ 288 := by have := len_of hx0; omega
          have H2 := Lib.hid hs2
          have S2 := Lib.hid (S1.out.trans st2)
          have TB2 := Lib.hid (TB1.out.step st2 hs5 hr5 hbase)
          have DX2 := Lib.hid (H1.out.dec st2 DX1.out)
          have DY2 := Lib.hid (H1.out.dec st2 DY1.out)
          obtain ⟨_, p2l, _, _, h5', _, vv, q7, q8, _⟩ := hs2
          have c3' := q7.cell (i := 3) (v := .int .i64 e2) rfl
          have TK := Lib.hid (took_or tk2)
          clear st2 tk2 q7 q8 H1 S1 TB1 DX1 DY1 c3
          rcases TK.out with ⟨hsy, rfl⟩ | ⟨b, hsy, _, he2⟩
          · have hpp : p1 < p2 := (symR_ok (by rw [bitsOf_len]; exact p1l) hsy).1
            rw [hsy] at HT'
            simp only [Res.bind] at HT'
            clear TK hsy
            by_cases h256 : v = 256
            · subst h256
              rw [if_pos rfl] at HT'
              go_wp2
              go_end0
              exact ⟨p2, o1, 0, rfl, H2.out, S2.out, ho1, by rw [HT'.out]; exact ⟨rfl, rfl, rfl⟩⟩
            · rw [if_neg h256] at HT'
              have h256I : ((v : Int) == 256) = false := by simp; omega
              by_cases hgt : 256 < v
              · rw [if_pos hgt] at HT'
                have hgtI : (256 : Int) < (v : Int) := by omega
                obtain ⟨u, hu⟩ : ∃ u : Nat, (u : Int) = (v : Int) - 256 - 1 := ⟨v - 257, by omega⟩
                have hu' : v - 257 = u := by omega
                have HU := Lib.hid hu
                have hul : u ≤ 1000 := by omega
                rw [hu'] at HT'
                clear hu hu'
                go_wp2_with fail
                rw [← HU.out]
                refine (match_any base s r gy bs ds p2 o1 most u w2 H2.out DY2.out hy0 TB2.out hs5 hr5 HBy.out hl hm ho1 hul).mono ?_
                rintro ev w3 ⟨p3, o3, e3, rfl, hs3, st3, ho3, ag3⟩
                have H3 := Lib.hid hs3
                have S3 := Lib.hid (S2.out.trans st3)
                have TB3 := Lib.hid (TB2.out.step st3 hs5 hr5 hbase)
                have DX3 := Lib.hid (H2.out.dec st3 DX2.out)
                have DY3 := Lib.hid (H2.out.dec st3 DY2.out)
                have HR := Lib.hid (show (e3 = 0 ∧ T = symsR (bitsOf bs) most zs ds f o3 p3 ∧ 8 * bs.length + 1 ≤ f + p3) ∨ (∃ b, e3 = errOf b ∧ T = .bad b) by
                  have h1 := HT'.out
                  rcases hm1 : matchR (bitsOf bs) most ds o1 u p2 with ⟨a, q⟩ | b
                  · rw [hm1] at h1 ag3
                    obtain ⟨rfl, rfl, rfl⟩ := ag3
                    have := matchR_mono (by rw [bitsOf_len]; exact p2l) hm1
                    exact .inl ⟨rfl, h1, by omega⟩
                  · rw [hm1] at h1 ag3
                    exact .inr ⟨b, ag3, h1⟩)
                clear hs3 st3 ag3 H2 S2 TB2 DX2 DY2 HU HT' c3'
                go_wp2
                go_roundg f
                case measure => omega
                case rel => exact ⟨o3, p3, e3, H3.out, S3.out, ho3, TB3.out, DX3.out, DY3.out, HR.out⟩
              · rw [if_neg hgt] at HT'
                have hgtI : ¬ (256 : Int) < (v : Int) := by omega
                go_wp2_with fail
                refine (room_any base s r bs p2 o1 (most : Int) 0 1 w2 H2.out (by omega) (by omega)).mono ?_
                rintro ev w3 ⟨e3, rfl, hs3, st3, he3⟩
                have H3 := Lib.hid hs3
                have S3 := Lib.hid (S2.out.trans st3)
                have TB3 := Lib.hid (TB2.out.step st3 hs5 hr5 hbase)
                have DX3 := Lib.hid (H2.out.dec st3 DX2.out)
                have DY3 := Lib.hid (H2.out.dec st3 DY2.out)
                clear hs3 st3 H2 S2 TB2 DX2 DY2 c3'
                by_cases hlong : most < o1.length + 1
                · rw [if_pos ⟨rfl, by omega⟩] at he3
                  rw [if_pos hlong] at HT'
                  subst he3
                  go_wp2
                  go_roundg f
                  case measure => omega
                  case rel => exact ⟨o1, p2, 3, H3.out, S3.out, ho1, TB3.out, DX3.out, DY3.out, .inr ⟨true, rfl, HT'.out⟩⟩
                · rw [if_neg (by omega)] at he3
                  rw [if_neg hlong] at HT'
                  subst he3
                  obtain ⟨_, _, _, _, h5'', _, vv, q7, q8, _⟩ := H3.out
                  obtain ⟨A3, c3, rfl, _⟩ := own_slice q8
                  have cc1 := q7.cell (i := 1) (v := .slice A3 o1.length c3) rfl
                  have HV := Lib.hid q7
                  have H8o := Lib.hid q8
                  clear q7 q8
                  have hv256 : v < 256 := by omega
                  have hvI : (v : Int) < 256 := by omega
                  have hxb : 0 ≤ (v : Int) ∧ (v : Int) < 256 := by omega
                  go_wp2_with (refine app_src rfl (.tmp 55) (.tmp 58) 22 rfl 0 5 _ 1 1 Tryd.underlying22 infoByte rfl (by omega) _ o1.length _ rfl (H8o.out.alloc _) _ 1 [Value.int .u8 (v : Int)] rfl (src_u8 _ _ _) (by simp [Value.oneCell']) (by omega) (by omega) (Nat.zero_le _) ?_; intro v9 w9 ho9 hg9 hor9; obtain ⟨A9, c9, hv9, _⟩ := own_slice ho9; subst hv9; have hP := str_push (v9 := .slice A9 (o1.length + 1) c9) (x := (v : Int)) H3.out HV.out ((Below.refl _ _).alloc (Nat.le_refl _) _) hg9 hor9 (by simpa using ho9) hxb; have f9 := hP.2.2.free 1; have d9 := hP.2.2.cell (i := 1) rfl; have HP := Lib.hid hP; clear ho9 hg9 hor9 hP)
                  go_roundg f
                  case measure => omega
                  case rel =>
                    have hst := HP.out.2.1
                    exact ⟨o1 ++ [(v : Int)], p2, 0, HP.out.1, S3.out.trans hst, by simp; omega, TB3.out.step hst hs5 hr5 hbase, H3.out.dec hst DX3.out, H3.out.dec hst DY3.out, .inl ⟨rfl, HT'.out, by omega⟩⟩
          · rw [if_pos rfl] at he2
            rw [hsy] at HT'
            simp only [Res.bind] at HT'
            have he := errOf_ne b
            have he' : (errOf b != 0) = true := by simpa using he
            generalize hE : errOf b = E at *
            subst he2
            have HE := Lib.hid hE
            clear hE TK hsy he
            go_wp2
            go_end0
            exact ⟨p2, o1, e2, rfl, H2.out, S2.out, ho1, by rw [HT'.out]; exact HE.out.symm⟩
        · have hT' := Lib.hid hT
          have he := errOf_ne b
          have he' : (errOf b == 0) = false := by simpa using he
          clear hT HT
          generalize hE : errOf b = E at *
          have HE := Lib.hid hE
          clear hE
          go_wp2
          go_end0
          exact ⟨p1, o1, E, rfl, H1.out, S1.out, ho1, by rw [hT'.out]; exact HE.out.symm⟩
end Go.Proofs.YtacidmamfkfipaaDoor
