/-
  The document's coded blocks.
-/
import Derived.Test.YtacidmamfkfipaaDoorRefMatch
namespace Go.Proofs.YtacidmamfkfipaaDoor
open Go.RowKit
set_option linter.unusedVariables false

def RCod (base s gx gy bx by' : Nat) (bs zs ds : List Int) (most : Nat) (T : Res (List Int)) (w : World) (k : Nat) (wr : World) : Prop :=
  ∃ out p e, RefOk wr base s bs p out (most : Int) e ∧ StStep w wr base s s ∧ out.length ≤ most ∧ Blk wr gx 117 #[.map (some bx)] ∧ Blk wr gy 117 #[.map (some by')] ∧ TreeOk wr bx zs ∧ TreeOk wr by' ds ∧
    ((e = 0 ∧ T = symsR (bitsOf bs) most zs ds k out p ∧ 8 * bs.length + 1 ≤ k + p) ∨ (∃ b, e = errOf b ∧ T = .bad b))
def RCodE (base s : Nat) (bs out : List Int) (p most : Nat) (w : World) (k : Nat) (wr : World) : Prop := RefOk wr base s bs p out (most : Int) 4 ∧ StStep w wr base s s

set_option maxHeartbeats 1600000 in
set_option maxRecDepth 100000 in
theorem rcoded_any (base s : Nat) (bs zs ds : List Int) (p : Nat) (out : List Int) (most : Nat) (A B : Option Addr) (n m ca cb : Nat) (w : World) (h : RefOk w base s bs p out (most : Int) 0) (hz : RdI .i64 w A n zs) (hd : RdI .i64 w B m ds) (hn : n ≤ 1000) (hm2 : m ≤ 1000)
    (hB : Bytes bs) (hl : bs.length ≤ 1000000000) (hm : most ≤ 65536) (ho : out.length ≤ most) :
    Calls Tryd.prog 36 #[.pointer (some ⟨s, 0, none⟩), .slice A n ca, .slice B m cb] w (RVoid base s bs most (codedR (bitsOf bs) most zs ds out p) w) := by
  have H := Lib.hid h
  have HZ := Lib.hid hz
  have HDs := Lib.hid hd
  have HBy := Lib.hid hB
  have h3 := h.2.2.1
  have hp := h.1
  clear h hz hd hB
  go_enter Tryd.func36, Tryd.ntmps36
  go_wp2_with fail
  refine (made_any zs A n ca w HZ.out hn).mono ?_
  rintro ev w1 ⟨bx, rfl, hbx, htx, hb1⟩
  have B1 := Lib.hid hb1
  have TX := Lib.hid htx
  clear htx hb1
  go_wp2_with fail
  obtain ⟨w2, hw2⟩ : ∃ w2, w2 = w1.alloc (.cells #[.map (some bx)] 117) := ⟨_, rfl⟩
  rw [← hw2]
  have L2 := Lib.hid (show Below w1.heap.size w1 w2 by rw [hw2]; exact (Below.refl _ _).alloc (Nat.le_refl _) _)
  have KX2 := Lib.hid (show Blk w2 w1.heap.size 117 #[.map (some bx)] by rw [hw2]; exact Blk.made _ _ _)
  clear hw2
  have B2 := Lib.hid (below_chain B1.out L2.out)
  refine (made_any ds B m cb w2 (HDs.out.below B2.out) hm2).mono ?_
  rintro ev w3 ⟨by', rfl, hby, hty, hb3⟩
  have B3 := Lib.hid hb3
  have TY := Lib.hid hty
  clear hty hb3
  have hszs : w1.heap.size < w2.heap.size := KX2.out.lt
  obtain ⟨w4, hw4⟩ : ∃ w4, w4 = w3.alloc (.cells #[.map (some by')] 117) := ⟨_, rfl⟩
  have L4 := Lib.hid (show Below w3.heap.size w3 w4 by rw [hw4]; exact (Below.refl _ _).alloc (Nat.le_refl _) _)
  have KY4 := Lib.hid (show Blk w4 w3.heap.size 117 #[.map (some by')] by rw [hw4]; exact Blk.made _ _ _)
  have B24 := Lib.hid (below_chain B3.out L4.out)
  have KX4 := Lib.hid (KX2.out.below B24.out KX2.out.lt)
  have B4 := Lib.hid (below_chain B2.out B24.out)
  have H4 := Lib.hid (H.out.below B4.out)
  have S4 := Lib.hid (StStep.of_below (s := s) (r := s) B4.out h3)
  have TX4 := Lib.hid (show countsOk zs = true → TreeOk w4 bx zs from fun hh => ((TX.out hh).below L2.out).below B24.out)
  have TY4 := Lib.hid (show countsOk ds = true → TreeOk w4 by' ds from fun hh => (TY.out hh).below L4.out)
  have HW4 := Lib.hid hw4
  clear hw4 TX TY KX2 L2 L4 B24 B3 B1 H
  cases hx0 : countsOk zs
  · have HT := Lib.hid (show codedR (bitsOf bs) most zs ds out p = .bad false by unfold codedR; rw [if_neg (by rw [hx0]; simp)])
    clear hx0
    cases hy0 : countsOk ds
    all_goals
      clear hy0
      go_wp2_with fail
      rw [← HW4.out]
      go_wp2_with fail
      refine (rfail_any base s bs p out (most : Int) 0 4 w4 H4.out).mono ?_
      rintro ev w5 ⟨rfl, h5', s5, _⟩
      rw [if_pos rfl] at h5'
      have H5 := Lib.hid h5'
      have S5 := Lib.hid (S4.out.trans s5)
      clear h5' s5
      go_wp2
      go_loopg [] 0 (RCodE base s bs out p most w)
      case atStart => exact ⟨H5.out, S5.out⟩
      case round =>
        clear H5 S5
        have HR := Lib.hid hrel
        have c4 := hrel.1.c4
        clear hrel
        go_wp2
        go_end0
        exact ⟨p, out, 4, rfl, HR.out.1, HR.out.2, ho, by rw [HT.out]; rfl⟩
  · cases hy0 : countsOk ds
    · have HT := Lib.hid (show codedR (bitsOf bs) most zs ds out p = .bad false by unfold codedR; rw [if_neg (by rw [hy0]; simp)])
      clear hy0 hx0
      go_wp2_with fail
      rw [← HW4.out]
      go_wp2_with fail
      refine (rfail_any base s bs p out (most : Int) 0 4 w4 H4.out).mono ?_
      rintro ev w5 ⟨rfl, h5', s5, _⟩
      rw [if_pos rfl] at h5'
      have H5 := Lib.hid h5'
      have S5 := Lib.hid (S4.out.trans s5)
      clear h5' s5
      go_wp2
      go_loopg [] 0 (RCodE base s bs out p most w)
      case atStart => exact ⟨H5.out, S5.out⟩
      case round =>
        clear H5 S5
        have HR := Lib.hid hrel
        have c4 := hrel.1.c4
        clear hrel
        go_wp2
        go_end0
        exact ⟨p, out, 4, rfl, HR.out.1, HR.out.2, ho, by rw [HT.out]; rfl⟩
    · have HT := Lib.hid (show codedR (bitsOf bs) most zs ds out p = symsR (bitsOf bs) most zs ds (8 * bs.length + 1) out p by unfold codedR; rw [if_pos ⟨hx0, hy0⟩, bitsOf_len])
      have DX := Lib.hid (TX4.out hx0)
      have DY := Lib.hid (TY4.out hy0)
      have HX0 := Lib.hid hx0
      have HY0 := Lib.hid hy0
      have hz288 := len_of hx0
      clear TX4 TY4 hx0 hy0
      generalize codedR (bitsOf bs) most zs ds out p = T at *
      go_wp2
      rw [← HW4.out]
      clear HW4
      go_loopg [] (8 * bs.length + 1) (RCod base s w1.heap.size w3.heap.size bx by' bs zs ds most T w)
      case atStart => exact ⟨out, p, 0, H4.out, S4.out, ho, KX4.out, KY4.out, DX.out, DY.out, .inl ⟨rfl, HT.out, by omega⟩⟩
      case round =>
        clear H4 S4 KX4 KY4 DX DY HT B4
        obtain ⟨o1, p1, e1, hs1, st1, ho1, kx1, ky1, dx1, dy1, hT⟩ := hrel
        have H1 := Lib.hid hs1
        have S1 := Lib.hid st1
        have KX1 := Lib.hid kx1
        have KY1 := Lib.hid ky1
        have DX1 := Lib.hid dx1
        have DY1 := Lib.hid dy1
        have HT := Lib.hid hT
        have p1l := hs1.1
        have c4 := hs1.c4
        have kxc := kx1.cell (i := 0) rfl
        clear hs1 st1 kx1 ky1 dx1 dy1 hT
        rcases HT.out with ⟨rfl, hT, hk⟩ | ⟨b, rfl, hT⟩
        · obtain ⟨f, rfl⟩ : ∃ f, gk = f + 1 := ⟨gk - 1, by omega⟩
          have HT' := Lib.hid (show T = (symR (bitsOf bs) zs p1).bind fun s p =>
            if s = 256 then .ok o1 p else
            if 256 < s then (matchR (bitsOf bs) most ds o1 (s - 257) p).bind fun out p => symsR (bitsOf bs) most zs ds f out p else
            if most < o1.length + 1 then .bad true else symsR (bitsOf bs) most zs ds f (o1 ++ [(s : Int)]) p from hT)
          clear hT HT
          go_wp2_with fail
          refine (rsymbol_any base s bx bs zs p1 o1 (most : Int) 0 wr H1.out DX1.out HX0.out HBy.out hl).mono ?_
          rintro ev w2 ⟨v, p2, e2, rfl, hv, hs2, st2, tk2⟩
          have hv288 : v ≤ 288 := by omega
          have H2 := Lib.hid hs2
          have S2 := Lib.hid (S1.out.trans st2)
          have KX2 := Lib.hid (H1.out.keepBlk st2 KX1.out (by decide) (by decide))
          have KY2 := Lib.hid (H1.out.keepBlk st2 KY1.out (by decide) (by decide))
          have DX2 := Lib.hid (DX1.out.step st2 H1.out.sblk)
          have DY2 := Lib.hid (DY1.out.step st2 H1.out.sblk)
          have p2l := hs2.1
          have h32 := hs2.2.2.1
          have c4' := hs2.c4
          have kyc := KY2.out.cell (i := 0) rfl
          have TK := Lib.hid (took_or (tk2.resolve_right (fun h => h.1 rfl)).2)
          clear hs2 st2 tk2 H1 S1 KX1 KY1 DX1 DY1 c4 kxc
          rcases TK.out with ⟨hsy, rfl⟩ | ⟨b, hsy, _, he2⟩
          · have hpp : p1 < p2 := (symR_lt hsy).1
            rw [hsy] at HT'
            simp only [Res.bind] at HT'
            clear TK hsy
            by_cases h256 : v = 256
            · subst h256
              rw [if_pos rfl] at HT'
              go_wp2
              go_end0
              exact ⟨p2, o1, 0, rfl, H2.out, S2.out, ho1, by rw [HT'.out]; exact ⟨rfl, rfl, rfl⟩⟩
            · rw [if_neg h256] at HT'
              have h256I : ((v : Int) == 256) = false := by simp; omega
              by_cases hgt : 256 < v
              · rw [if_pos hgt] at HT'
                have hgtI : (256 : Int) < (v : Int) := by omega
                go_wp2_with fail
                refine (rmatch_any base s by' bs ds p2 o1 most v w2 H2.out DY2.out HY0.out HBy.out hl hm ho1 (by omega) (by omega)).mono ?_
                rintro ev w5 ⟨p3, o3, e3, rfl, hs3, st3, ho3, ag3⟩
                have H3 := Lib.hid hs3
                have S3 := Lib.hid (S2.out.trans st3)
                have KX3 := Lib.hid (H2.out.keepBlk st3 KX2.out (by decide) (by decide))
                have KY3 := Lib.hid (H2.out.keepBlk st3 KY2.out (by decide) (by decide))
                have DX3 := Lib.hid (DX2.out.step st3 H2.out.sblk)
                have DY3 := Lib.hid (DY2.out.step st3 H2.out.sblk)
                have HR := Lib.hid (show (e3 = 0 ∧ T = symsR (bitsOf bs) most zs ds f o3 p3 ∧ 8 * bs.length + 1 ≤ f + p3) ∨ (∃ b, e3 = errOf b ∧ T = .bad b) by
                  have h1 := HT'.out
                  rcases hm1 : matchR (bitsOf bs) most ds o1 (v - 257) p2 with ⟨a, q⟩ | b
                  · rw [hm1] at h1 ag3
                    obtain ⟨rfl, rfl, rfl⟩ := ag3
                    have := matchR_mn hm1
                    exact .inl ⟨rfl, h1, by omega⟩
                  · rw [hm1] at h1 ag3
                    exact .inr ⟨b, ag3, h1⟩)
                clear hs3 st3 ag3 H2 S2 KX2 KY2 DX2 DY2 HT' c4' kyc
                go_wp2
                go_roundg f
                case measure => omega
                case rel => exact ⟨o3, p3, e3, H3.out, S3.out, ho3, KX3.out, KY3.out, DX3.out, DY3.out, HR.out⟩
              · rw [if_neg hgt] at HT'
                have hgtI : ¬ (256 : Int) < (v : Int) := by omega
                obtain ⟨Ax, cx, Ay, cy, bz, oz, lz⟩ := H2.out.parts
                have x2 := bz.cell (i := 2) (v := .slice Ay o1.length cy) rfl
                have x3 := bz.cell (i := 3) (v := .int .i64 (most : Int)) rfl
                have BZ := Lib.hid bz.drew
                have OZ := Lib.hid oz.drew
                have x2' : w2.drew.cell? ⟨s, 2, none⟩ = some (.slice Ay o1.length cy) := x2
                have hdr := (Below.refl w2.heap.size w2).drew
                have st23 := StStep.of_below (s := s) (r := s) hdr h32
                have H3 := Lib.hid (H2.out.below hdr)
                have S3 := Lib.hid (S2.out.trans st23)
                have KX3 := Lib.hid (H2.out.keepBlk st23 KX2.out (by decide) (by decide))
                have KY3 := Lib.hid (H2.out.keepBlk st23 KY2.out (by decide) (by decide))
                have DX3 := Lib.hid (DX2.out.step st23 H2.out.sblk)
                have DY3 := Lib.hid (DY2.out.step st23 H2.out.sblk)
                clear bz oz lz hdr st23 H2 S2 KX2 KY2 DX2 DY2 kyc
                by_cases hlong : most < o1.length + 1
                · rw [if_pos hlong] at HT'
                  have dl : decide ((most : Int) ≤ (o1.length : Int)) = true := by simp; omega
                  have dl2 : decide (most ≤ o1.length) = true := by simp; omega
                  go_wp2
                  refine wp_region_qs (fun _ w' => w'.cell? ⟨s, 2, none⟩ = some (.slice Ay o1.length cy) ∧ w'.cell? ⟨s, 3, none⟩ = some (.int .i64 (most : Int))) [(0, some 0), (1, some 0), (2, some 0), (3, some 0), (4, some 0), (5, some 0), (6, some 0), (7, some 0), (8, some 0), (9, some 0)] (by kernel_rfl) (by kernel_rfl) (by kernel_rfl) (by kernel_rfl) (by kernel_rfl) (fun _ _ _ _ _ h => h) ⟨x2, x3⟩ ?_
                  simp only [List.map_cons, List.map_nil, List.getD_cons_succ, List.getD_cons_zero]
                  (repeat (first | (refine qs_now (v := ?_) (by rfl) ?_ ?_; rotate_left 1; (· (intro w' hS; go_simp; (try (simp only [↓IntWalk.iteOmega]; go_simp)); (try simp (disch := omega) only [IntWalk.i64_in]); try with_reducible rfl)); simp only [Act.put, List.setIfInBounds_toArray, List.set_cons_zero, List.set_cons_succ]) | (refine qs_run (v := ?_) (by rfl) ?_ ?_; rotate_left 1; (· (intro j w' hS; go_simp; (try (simp only [↓IntWalk.iteOmega]; go_simp)); (try simp (disch := omega) only [IntWalk.i64_in]); try with_reducible rfl)); simp only [Act.put, List.setIfInBounds_toArray, List.set_cons_zero, List.set_cons_succ]) | (refine qs_skip (by rfl) ?_; simp only [Act.put, List.setIfInBounds_toArray, List.set_cons_zero, List.set_cons_succ])))
                  refine qs_nil ?_
                  go_wp2_with fail
                  refine (rfail_any base s bs p2 o1 (most : Int) 0 3 w2.drew H3.out).mono ?_
                  rintro ev w5 ⟨rfl, h5', s5, _⟩
                  rw [if_pos rfl] at h5'
                  have H5 := Lib.hid h5'
                  have S5 := Lib.hid (S3.out.trans s5)
                  clear h5' s5
                  go_wp2
                  go_end0
                  exact ⟨p2, o1, 3, rfl, H5.out, S5.out, ho1, by rw [HT'.out]; rfl⟩
                · rw [if_neg hlong] at HT'
                  have dl : decide ((most : Int) ≤ (o1.length : Int)) = false := by simp; omega
                  have dl2 : decide (most ≤ o1.length) = false := by simp; omega
                  have hv256 : v < 256 := by omega
                  have hvI : (v : Int) < 256 := by omega
                  have hxb : 0 ≤ (v : Int) ∧ (v : Int) < 256 := by omega
                  go_wp2
                  refine wp_region_qs (fun _ w' => w'.cell? ⟨s, 2, none⟩ = some (.slice Ay o1.length cy) ∧ w'.cell? ⟨s, 3, none⟩ = some (.int .i64 (most : Int))) [(0, some 0), (1, some 0), (2, some 0), (3, some 0), (4, some 0), (5, some 0), (6, some 0), (7, some 0), (8, some 0), (9, some 0)] (by kernel_rfl) (by kernel_rfl) (by kernel_rfl) (by kernel_rfl) (by kernel_rfl) (fun _ _ _ _ _ h => h) ⟨x2, x3⟩ ?_
                  simp only [List.map_cons, List.map_nil, List.getD_cons_succ, List.getD_cons_zero]
                  (repeat (first | (refine qs_now (v := ?_) (by rfl) ?_ ?_; rotate_left 1; (· (intro w' hS; go_simp; (try (simp only [↓IntWalk.iteOmega]; go_simp)); (try simp (disch := omega) only [IntWalk.i64_in]); try with_reducible rfl)); simp only [Act.put, List.setIfInBounds_toArray, List.set_cons_zero, List.set_cons_succ]) | (refine qs_run (v := ?_) (by rfl) ?_ ?_; rotate_left 1; (· (intro j w' hS; go_simp; (try (simp only [↓IntWalk.iteOmega]; go_simp)); (try simp (disch := omega) only [IntWalk.i64_in]); try with_reducible rfl)); simp only [Act.put, List.setIfInBounds_toArray, List.set_cons_zero, List.set_cons_succ]) | (refine qs_skip (by rfl) ?_; simp only [Act.put, List.setIfInBounds_toArray, List.set_cons_zero, List.set_cons_succ])))
                  refine qs_nil ?_
                  go_wp2_with (refine app_src rfl (.tmp 68) (.tmp 71) 22 rfl 0 5 _ 1 1 Tryd.underlying22 infoByte rfl (by omega) _ o1.length _ rfl (OZ.out.alloc _) _ 1 [Value.int .u8 (v : Int)] rfl (src_u8 _ _ _) (by simp [Value.oneCell']) (by omega) (by omega) (Nat.zero_le _) ?_; intro v9 w9 ho9 hg9 hor9; obtain ⟨A9, c9, hv9, _⟩ := own_slice ho9; subst hv9; have hP := ref_push (v9 := .slice A9 (o1.length + 1) c9) (x := (v : Int)) H3.out BZ.out ((Below.refl _ _).alloc (Nat.le_refl _) _) hg9 hor9 (by simpa using ho9) hxb; have f9 := hP.2.2.free 2; have d9 := hP.2.2.cell (i := 2) rfl; have HP := Lib.hid hP; clear ho9 hg9 hor9 hP)
                  go_roundg f
                  case measure => omega
                  case rel =>
                    have hst := HP.out.2.1
                    exact ⟨o1 ++ [(v : Int)], p2, 0, HP.out.1, S3.out.trans hst, by simp; omega, H3.out.keepBlk hst KX3.out (by decide) (by decide), H3.out.keepBlk hst KY3.out (by decide) (by decide), DX3.out.step hst H3.out.sblk, DY3.out.step hst H3.out.sblk, .inl ⟨rfl, HT'.out, by omega⟩⟩
          · rw [if_pos rfl] at he2
            rw [hsy] at HT'
            simp only [Res.bind] at HT'
            have he := errOf_ne b
            have he' : (errOf b != 0) = true := by simpa using he
            generalize hE : errOf b = E at *
            subst he2
            have HE := Lib.hid hE
            clear hE TK hsy he
            go_wp2
            go_end0
            exact ⟨p2, o1, e2, rfl, H2.out, S2.out, ho1, by rw [HT'.out]; exact HE.out.symm⟩
        · have hT' := Lib.hid hT
          have he := errOf_ne b
          have he' : (errOf b == 0) = false := by simpa using he
          clear hT HT
          generalize hE : errOf b = E at *
          have HE := Lib.hid hE
          clear hE
          go_wp2
          go_end0
          exact ⟨p1, o1, E, rfl, H1.out, S1.out, ho1, by rw [hT'.out]; exact HE.out.symm⟩
end Go.Proofs.YtacidmamfkfipaaDoor
