/-
  peatbanklaw06: pieces, dynamic, walked.
-/
import Derived.Test.YtlhaehefhhcgaaaDoorIbW
namespace Go.Proofs.YtlhaehefhhcgaaaDoor
open Go.RowKit
set_option linter.unusedVariables false
set_option linter.unusedSimpArgs false

def IntRow (w : World) (zs : List Int) (A : Option Addr) (n c : Nat) : Prop := w.ownsRow 0 3 1 (.slice A n c) n (zs.map (Value.int .i64))
theorem IntRow.len {w : World} {zs : List Int} {A : Option Addr} {n c : Nat} (h : IntRow w zs A n c) : zs.length = n := (RdI.of_own h).1
theorem IntRow.below {w w' : World} {zs : List Int} {A : Option Addr} {n c : Nat} (h : IntRow w zs A n c) (hb : Below w.heap.size w w') : IntRow w' zs A n c := own_below h hb
theorem IntRow.step {w w' : World} {g : Nat} {own own' : Option Nat} {bt zs : List Int} {A : Option Addr} {n c : Nat} (h : IntRow w zs A n c) (hw : WrOk w g own bt) (hst : WrStep w w' g own own') : IntRow w' zs A n c :=
  hst.keeps hw h (by decide) (by decide)
theorem own_low {w : World} {b n size : Nat} {t : TypeId} {v : Value} {xs : List Value} (h : w.ownsRow b t size v n xs) : w.ownsRow 0 t size v n xs := ownbase h (Nat.zero_le _)
/-- A code of lengths: huff.Codes. -/
theorem ibcodes_any (zs : List Int) (A : Option Addr) (n c : Nat) (w : World) (h : IntRow w zs A n c) (hok : countsOk zs = true) (hn : n ≤ 1000000) :
    Calls Tryd.prog 41 #[.slice A n c] w fun ev w' => ∃ A2 c2, ev = .returned (.tuple #[.slice A2 n c2, .int .i64 0]) ∧ CodeOk w' zs A A2 n c c2 ∧ Below w.heap.size w w' := by
  refine (codes_any zs A n c w (RdI.of_own h) (by omega)).mono ?_
  rintro ev w1 (⟨hno, _⟩ | ⟨_, A2, c2, rfl, ho, hb⟩)
  · rw [hok] at hno; cases hno
  · exact ⟨A2, c2, rfl, ⟨own_below h hb, own_low ho⟩, hb⟩
theorem lb_num {n k : Nat} (h1 : (lbases.getD k 0).toNat ≤ n) (h2 : n ≤ 258) (hk : k < 29) : ((n : Int) - lbases.getD k 0) % 4294967296 = ((n - (lbases.getD k 0).toNat : Nat) : Int) := by
  have := lb_pos k hk
  omega
theorem db_num {n k : Nat} (h1 : (dbases.getD k 0).toNat ≤ n) (h2 : n ≤ 32768) (hk : k < 30) : ((n : Int) - dbases.getD k 0) % 4294967296 = ((n - (dbases.getD k 0).toNat : Nat) : Int) := by
  have := db_pos k hk
  omega
theorem lx_nn : ∀ k, k < 29 → lbits.getD k 0 = (((lbits.getD k 0).toNat : Nat) : Int) := by decide
theorem dx_nn : ∀ k, k < 30 → dbits.getD k 0 = (((dbits.getD k 0).toNat : Nat) : Int) := by decide
theorem blk_tab {w : World} {g : Nat} {l : List Int} (h : Blk w g 3 (l.map (Value.int .i64)).toArray) {j : Nat} (hj : j < l.length) : w.cell? ⟨g, j, none⟩ = some (.int .i64 (l.getD j 0)) := tab_cell h hj

set_option maxHeartbeats 6400000 in
set_option maxRecDepth 100000 in
theorem ibpieces_any (bt : List Int) (g : Nat) (own : Option Nat) (zs ds : List Int) (A1 B1 : Option Addr) (n1 c1 n2 d1 : Nat) (l : List Pc) (A : Option Addr) (n c : Nat) (w0 w : World) (h : WrOk w g own bt) (hc1 : IntRow w zs A1 n1 c1) (hc2 : IntRow w ds B1 n2 d1) (hz : countsOk zs = true) (hd : countsOk ds = true)
    (hn1 : 286 ≤ n1 ∧ n1 ≤ 1000) (hn2 : 30 ≤ n2 ∧ n2 ≤ 1000) (hl : PSrc w0 A n c (l.map Pc.raw)) (hn : n ≤ 65536) (hf : ∀ p ∈ l, Fine p) (h0w : Below w0.heap.size w0 w) (hg : w0.heap.size ≤ g) (ho : Lo w0.heap.size own) (hbt : bt.length ≤ 800000000) :
    Calls Tryd.prog 22 #[.pointer (some ⟨g, 0, none⟩), .slice A n c, .slice A1 n1 c1, .slice B1 n2 d1] w (DPutPost bt g own (pcsB zs ds l) w) := by
  have H := Lib.hid h
  have HC1 := Lib.hid hc1
  have HC2 := Lib.hid hc2
  have HL := Lib.hid hl
  have HF := Lib.hid hf
  have HO := Lib.hid ho
  have HZ := Lib.hid hz
  have HD := Lib.hid hd
  have H0 := Lib.hid h0w
  have hzl := hc1.len
  have hdl := hc2.len
  have hln : l.length = n := by have := hl.len; simpa using this
  clear h hc1 hc2 hl hf ho hz hd h0w
  go_enter Tryd.func22, Tryd.ntmps22
  go_wp2_with fail
  refine (ibcodes_any zs A1 n1 c1 w HC1.out HZ.out (by omega)).mono ?_
  rintro ev w1 ⟨A2, c2, rfl, hk1, hb1⟩
  have B1' := Lib.hid hb1
  have K1 := Lib.hid hk1
  have E1 := Lib.hid (HC2.out.below hb1)
  clear hk1 hb1 HC1 HC2
  go_wp2_with fail
  refine (ibcodes_any ds B1 n2 d1 w1 E1.out HD.out (by omega)).mono ?_
  rintro ev w2 ⟨B2, d2, rfl, hk2, hb2⟩
  have L2 := Lib.hid (show Below w.heap.size w w2 from B1'.out.trans (hb2.mono B1'.out.size))
  have K12 := Lib.hid (K1.out.below hb2)
  have K22 := Lib.hid hk2
  clear hk2 hb2 K1 E1 B1'
  go_wp2_with fail
  refine (rlb_any w2).mono ?_
  rintro ev w3 ⟨gl, rfl, hgl, _, hb3⟩
  have L3 := Lib.hid (show Below w.heap.size w w3 from L2.out.trans (hb3.mono L2.out.size))
  have K13 := Lib.hid (K12.out.below hb3)
  have K23 := Lib.hid (K22.out.below hb3)
  have G1 := Lib.hid hgl
  clear hgl hb3 K12 K22 L2
  go_wp2_with fail
  refine (rlx_any w3).mono ?_
  rintro ev w4 ⟨gx, rfl, hgx, _, hb4⟩
  have L4 := Lib.hid (show Below w.heap.size w w4 from L3.out.trans (hb4.mono L3.out.size))
  have K14 := Lib.hid (K13.out.below hb4)
  have K24 := Lib.hid (K23.out.below hb4)
  have G14 := Lib.hid (G1.out.below hb4 G1.out.lt)
  have G24 := Lib.hid hgx
  clear hgx hb4 K13 K23 L3 G1
  go_wp2_with fail
  refine (rdb_any w4).mono ?_
  rintro ev w5 ⟨gd, rfl, hgd, _, hb5⟩
  have L5 := Lib.hid (show Below w.heap.size w w5 from L4.out.trans (hb5.mono L4.out.size))
  have K15 := Lib.hid (K14.out.below hb5)
  have K25 := Lib.hid (K24.out.below hb5)
  have G15 := Lib.hid (G14.out.below hb5 G14.out.lt)
  have G25 := Lib.hid (G24.out.below hb5 G24.out.lt)
  have G35 := Lib.hid hgd
  clear hgd hb5 K14 K24 L4 G14 G24
  go_wp2_with fail
  refine (rdx_any w5).mono ?_
  rintro ev w6 ⟨ge, rfl, hge, _, hb6⟩
  have L6 := Lib.hid (show Below w.heap.size w w6 from L5.out.trans (hb6.mono L5.out.size))
  have K16 := Lib.hid (K15.out.below hb6)
  have K26 := Lib.hid (K25.out.below hb6)
  have G16 := Lib.hid (G15.out.below hb6 G15.out.lt)
  have G26 := Lib.hid (G25.out.below hb6 G25.out.lt)
  have G36 := Lib.hid (G35.out.below hb6 G35.out.lt)
  have G46 := Lib.hid hge
  have HB := Lib.hid (H.out.below L6.out)
  have HW0 := Lib.hid (show Below w0.heap.size w0 w6 from H0.out.trans (L6.out.mono H0.out.size))
  clear hge hb6 K15 K25 L5 G15 G25 G35
  go_wp2
  go_loopg [16] n (PcsI bt g own zs ds l w6)
  case atStart => exact ⟨0, own, rfl, by omega, by simpa using HB.out, WrStep.refl _ _ _⟩
  case round =>
    obtain ⟨i, own1, rfl, hi, hw, hst⟩ := hrel
    have HW := Lib.hid hw
    have HS := Lib.hid hst
    have HC1r := Lib.hid (K16.out.step HB.out hst)
    have HC2r := Lib.hid (K26.out.step HB.out hst)
    have T1 := Lib.hid (hst.blk HB.out G16.out (by decide) (by decide))
    have T2 := Lib.hid (hst.blk HB.out G26.out (by decide) (by decide))
    have T3 := Lib.hid (hst.blk HB.out G36.out (by decide) (by decide))
    have T4 := Lib.hid (hst.blk HB.out G46.out (by decide) (by decide))
    have HWr := Lib.hid (show Below w0.heap.size w0 wr from HW0.out.trans (hst.below hg HO.out HW0.out.size))
    have hbl : (bt ++ (l.take i).flatMap (pcB zs ds)).length ≤ 808000000 := by
      have := pcsB_le HZ.out HD.out (by omega) (by omega) (l.take i) (fun q hq => HF.out q (List.mem_of_mem_take hq))
      rw [List.length_take] at this
      rw [List.length_append]
      omega
    clear hw hst
    by_cases hlt : i < n
    · obtain ⟨gp, off, p, rfl, hgp, hp, p0, p1, p2⟩ := HL.out.pc hlt
      have hfp := HF.out p (List.mem_of_getElem? hp)
      have HP := Lib.hid hp
      clear hp
      have hltI : (i : Int) < (n : Int) := by omega
      have a0 := keepCell HWr.out hgp p0
      have a1 := keepCell HWr.out hgp p1
      have a2 := keepCell HWr.out hgp p2
      by_cases h0 : p.n = 0
      · have hpb : p.b < 256 := by rcases hfp with h | h <;> omega
        rw [h0, show ((0 : Nat) : Int) = 0 from rfl] at a1
        go_wp2_with fail
        refine (ibcode_any (bt ++ (l.take i).flatMap (pcB zs ds)) g own1 zs A1 A2 n1 c1 c2 p.b wr HW.out HC1r.out HZ.out (by omega) (by omega) (by omega)).mono ?_
        rintro ev wn ⟨rfl, own2, ho2, hst2⟩
        have HO2 := Lib.hid ho2
        have HS2 := Lib.hid (HS.out.trans hst2)
        clear ho2 hst2
        go_wp2
        go_roundg (gk - 1)
        case measure => omega
        case rel =>
          refine ⟨i + 1, own2, by go_num, by omega, ?_, HS2.out⟩
          have e1 : pcB zs ds p = litB zs p.b := by unfold pcB; rw [if_pos h0]
          have h2 := HO2.out
          rw [← e1, List.append_assoc] at h2
          rw [take_getq HP.out, List.flatMap_append]
          simpa using h2
      · have h0I : (((p.n : Nat) : Int) == 0) = false := by simp; omega
        have hfb : 3 ≤ p.n ∧ p.n ≤ 258 ∧ 1 ≤ p.d ∧ p.d ≤ 32768 := by
          rcases hfp with h | h
          · exact absurd h.1 h0
          · exact h
        obtain ⟨f1, f2, f3, f4⟩ := hfb
        have klt := lenK_le p.n
        have dlt := distK_le p.d
        have HS1 := Lib.hid (fun w' (h : Blk w' gl 3 (lbases.map (Value.int .i64)).toArray) => ibsym_any lbases _ 29 29 p.n w' (rd_blk h) (by omega) (by omega))
        have HS3 := Lib.hid (fun w' (h : Blk w' gd 3 (dbases.map (Value.int .i64)).toArray) => ibsym_any dbases _ 30 30 p.d w' (rd_blk h) (by omega) (by omega))
        rw [show lastLe lbases p.n (29 - 1) = lenK p.n from rfl] at HS1
        rw [show lastLe dbases p.d (30 - 1) = distK p.d from rfl] at HS3
        have NL := Lib.hid (lb_num (lenK_spec f1 f2).1 f2 (show lenK p.n < 29 by omega))
        have ND := Lib.hid (db_num (distK_spec f3 f4).1 f4 (show distK p.d < 30 by omega))
        have XL := Lib.hid (lx_nn (lenK p.n) (by omega))
        have XD := Lib.hid (dx_nn (distK p.d) (by omega))
        have YL := Lib.hid (fun w' (h : Blk w' gl 3 (lbases.map (Value.int .i64)).toArray) => blk_tab h (j := lenK p.n) (by show _ < 29; omega))
        have YT := Lib.hid (fun w' (h : Blk w' gx 3 (lbits.map (Value.int .i64)).toArray) => blk_tab h (j := lenK p.n) (by show _ < 29; omega))
        have hb1 := lb_pos (lenK p.n) (by omega)
        have hb2 := db_pos (distK p.d) (by omega)
        have hx1 : p.n - (lbases.getD (lenK p.n) 0).toNat < 4294967296 := by omega
        have hk1 : (lbits.getD (lenK p.n) 0).toNat ≤ 32 := by have := lbits_bd (lenK p.n) (by omega); omega
        have hx2 : p.d - (dbases.getD (distK p.d) 0).toNat < 4294967296 := by omega
        have hk2 : (dbits.getD (distK p.d) 0).toNat ≤ 32 := by have := dbits_bd (distK p.d) (by omega); omega
        have hs1 : 257 + lenK p.n < n1 := by omega
        have hs2 : distK p.d < n2 := by omega
        have HLit := Lib.hid (show pcB zs ds p = litB zs (257 + lenK p.n) ++ (bitsL (p.n - (lbases.getD (lenK p.n) 0).toNat) (lbits.getD (lenK p.n) 0).toNat ++ (litB ds (distK p.d) ++ bitsL (p.d - (dbases.getD (distK p.d) 0).toNat) (dbits.getD (distK p.d) 0).toNat)) by unfold pcB; rw [if_neg h0])
        have hle1 := litB_le HZ.out (s := 257 + lenK p.n) (by omega)
        have hle2 := litB_le HD.out (s := distK p.d) (by omega)
        have YD := Lib.hid (fun w' (h : Blk w' gd 3 (dbases.map (Value.int .i64)).toArray) => blk_tab h (j := distK p.d) (by show _ < 30; omega))
        have YX := Lib.hid (fun w' (h : Blk w' ge 3 (dbits.map (Value.int .i64)).toArray) => blk_tab h (j := distK p.d) (by show _ < 30; omega))
        generalize lenK p.n = kL at *
        generalize distK p.d = kD at *
        generalize p.n - (lbases.getD kL 0).toNat = xL at *
        generalize p.d - (dbases.getD kD 0).toNat = xD at *
        generalize (lbits.getD kL 0).toNat = tL at *
        generalize (dbits.getD kD 0).toNat = tD at *
        generalize lbases.getD kL 0 = bL at *
        generalize dbases.getD kD 0 = bD at *
        generalize lbits.getD kL 0 = eL at *
        generalize dbits.getD kD 0 = eD at *
        obtain rfl := XL.out
        obtain rfl := XD.out
        go_wp2
        have b1 : wr.drew.cell? ⟨gp, off + i * 3 + 1, none⟩ = some (.int .i64 (p.n : Int)) := a1
        have b2 : wr.drew.cell? ⟨gp, off + i * 3 + 2, none⟩ = some (.int .i64 (p.d : Int)) := a2
        refine wp_region_qs (fun _ w' => w'.cell? ⟨gp, off + i * 3 + 1, none⟩ = some (.int .i64 (p.n : Int)) ∧ w'.cell? ⟨gp, off + i * 3 + 2, none⟩ = some (.int .i64 (p.d : Int))) [(0, some 1), (1, some 2), (2, some 2), (3, some 2), (4, some 2), (5, some 1), (7, some 1), (8, some 2), (9, some 2), (10, some 2), (11, some 2), (12, some 1), (6, none), (13, none), (14, some 2), (15, some 2)] (by kernel_rfl) (by kernel_rfl) (by kernel_rfl) (by kernel_rfl) (by kernel_rfl) (fun _ _ _ _ _ h => h) ⟨b1, b2⟩ ?_
        simp only [List.map_cons, List.map_nil, List.getD_cons_succ, List.getD_cons_zero]
        (repeat (first | (refine qs_now (v := ?_) (by rfl) ?_ ?_; rotate_left 1; (· (intro w' hS; go_simp; (try (simp only [↓IntWalk.iteOmega]; go_simp)); (try simp (disch := omega) only [IntWalk.i64_in]); try with_reducible rfl)); simp only [Act.put, List.setIfInBounds_toArray, List.set_cons_zero, List.set_cons_succ]) | (refine qs_run (v := ?_) (by rfl) ?_ ?_; rotate_left 1; (· (intro j w' hS; go_simp; (try (simp only [↓IntWalk.iteOmega]; go_simp)); (try simp (disch := omega) only [IntWalk.i64_in]); try with_reducible rfl)); simp only [Act.put, List.setIfInBounds_toArray, List.set_cons_zero, List.set_cons_succ]) | (refine qs_mid (v := ?_) (by rfl) ?_ ?_; rotate_left 1; (· (intro j w' hj1 hj2 hS; go_simp; (try (simp only [↓IntWalk.iteOmega]; go_simp)); (try simp (disch := omega) only [IntWalk.i64_in]); try with_reducible rfl)); simp only [Act.put, List.setIfInBounds_toArray, List.set_cons_zero, List.set_cons_succ]) | (refine qs_skip (by rfl) ?_; simp only [Act.put, List.setIfInBounds_toArray, List.set_cons_zero, List.set_cons_succ])))
        refine qs_act ?_
        go_wp2_with fail
        refine (HS1.out wr.drew T1.out.drew).mono ?_
        rintro ev wn ⟨rfl, rfl⟩
        go_wp2
        refine ⟨⟨b1, b2⟩, ?_⟩
        refine qs_act ?_
        go_wp2_with fail
        refine (HS3.out wr.drew T3.out.drew).mono ?_
        rintro ev wn ⟨rfl, rfl⟩
        go_wp2
        refine ⟨⟨b1, b2⟩, ?_⟩
        (repeat (first | (refine qs_now (v := ?_) (by rfl) ?_ ?_; rotate_left 1; (· (intro w' hS; go_simp; (try (simp only [↓IntWalk.iteOmega]; go_simp)); (try simp (disch := omega) only [IntWalk.i64_in]); try with_reducible rfl)); simp only [Act.put, List.setIfInBounds_toArray, List.set_cons_zero, List.set_cons_succ]) | (refine qs_run (v := ?_) (by rfl) ?_ ?_; rotate_left 1; (· (intro j w' hS; go_simp; (try (simp only [↓IntWalk.iteOmega]; go_simp)); (try simp (disch := omega) only [IntWalk.i64_in]); try with_reducible rfl)); simp only [Act.put, List.setIfInBounds_toArray, List.set_cons_zero, List.set_cons_succ]) | (refine qs_mid (v := ?_) (by rfl) ?_ ?_; rotate_left 1; (· (intro j w' hj1 hj2 hS; go_simp; (try (simp only [↓IntWalk.iteOmega]; go_simp)); (try simp (disch := omega) only [IntWalk.i64_in]); try with_reducible rfl)); simp only [Act.put, List.setIfInBounds_toArray, List.set_cons_zero, List.set_cons_succ]) | (refine qs_skip (by rfl) ?_; simp only [Act.put, List.setIfInBounds_toArray, List.set_cons_zero, List.set_cons_succ])))
        refine qs_nil ?_
        clear a0 a1 a2 b1 b2
        have eI : (257 : Int) + (kL : Int) = ((257 + kL : Nat) : Int) := by omega
        generalize 257 + kL = sL at *
        have D0 := Lib.hid (show Below wr.heap.size wr wr.drew from (Below.refl _ _).drew)
        have HWd := Lib.hid (HW.out.below D0.out)
        have C1d := Lib.hid (HC1r.out.below D0.out)
        have C2d := Lib.hid (HC2r.out.below D0.out)
        have Sd := Lib.hid (HS.out.trans (WrStep.of_below D0.out))
        have Lod := Lib.hid (Sd.out.lo HO.out HW0.out.size)
        have HWrd := Lib.hid (show Below w0.heap.size w0 wr.drew from HWr.out.trans (D0.out.mono HWr.out.size))
        clear HW HC1r HC2r HS HWr T1 T2 T3 T4
        generalize wr.drew = wd at *
        go_wp2_with fail
        refine (ibcode_any (bt ++ (l.take i).flatMap (pcB zs ds)) g own1 zs A1 A2 n1 c1 c2 sL wd HWd.out C1d.out HZ.out (by omega) (by omega) (by omega)).mono ?_
        rintro ev we ⟨rfl, own2, ho2, hst2⟩
        have S2 := Lib.hid (Sd.out.trans hst2)
        have C22 := Lib.hid (C2d.out.step HWd.out hst2)
        have W2 := Lib.hid ho2
        have Lo2 := Lib.hid (hst2.lo Lod.out HWrd.out.size)
        have W02 := Lib.hid (show Below w0.heap.size w0 we from HWrd.out.trans (hst2.below hg Lod.out HWrd.out.size))
        clear ho2 hst2 HWd C1d C2d Sd Lod HWrd
        have a1 := keepCell W02.out hgp p1
        have x1 := YL.out we (S2.out.blk HB.out G16.out (by decide) (by decide))
        have x2 := YT.out we (S2.out.blk HB.out G26.out (by decide) (by decide))
        go_wp2
        -- the length's bits
        refine wp_region_qs (fun _ w' => w'.cell? ⟨gp, off + i * 3 + 1, none⟩ = some (.int .i64 (p.n : Int)) ∧ w'.cell? ⟨gl, kL, none⟩ = some (.int .i64 bL) ∧ w'.cell? ⟨gx, kL, none⟩ = some (.int .i64 (tL : Int))) [(0, some 0), (1, some 1), (2, some 1), (3, some 1), (4, some 1), (5, some 1), (6, some 1), (7, some 1), (8, some 1), (9, some 1), (10, some 1), (11, some 0), (12, some 1), (13, some 1), (14, some 1), (15, some 0), (16, none)] (by kernel_rfl) (by kernel_rfl) (by kernel_rfl) (by kernel_rfl) (by kernel_rfl) (fun _ _ _ _ _ h => h) ⟨a1, x1, x2⟩ ?_
        simp only [List.map_cons, List.map_nil, List.getD_cons_succ, List.getD_cons_zero]
        (repeat (first | (refine qs_now (v := ?_) (by rfl) ?_ ?_; rotate_left 1; (· (intro w' hS; go_simp; (try (simp only [↓IntWalk.iteOmega]; go_simp)); (try simp (disch := omega) only [IntWalk.i64_in]); try with_reducible rfl)); simp only [Act.put, List.setIfInBounds_toArray, List.set_cons_zero, List.set_cons_succ]) | (refine qs_run (v := ?_) (by rfl) ?_ ?_; rotate_left 1; (· (intro j w' hS; go_simp; (try (simp only [↓IntWalk.iteOmega]; go_simp)); (try simp (disch := omega) only [IntWalk.i64_in]); try with_reducible rfl)); simp only [Act.put, List.setIfInBounds_toArray, List.set_cons_zero, List.set_cons_succ]) | (refine qs_mid (v := ?_) (by rfl) ?_ ?_; rotate_left 1; (· (intro j w' hj1 hj2 hS; go_simp; (try (simp only [↓IntWalk.iteOmega]; go_simp)); (try simp (disch := omega) only [IntWalk.i64_in]); try with_reducible rfl)); simp only [Act.put, List.setIfInBounds_toArray, List.set_cons_zero, List.set_cons_succ]) | (refine qs_skip (by rfl) ?_; simp only [Act.put, List.setIfInBounds_toArray, List.set_cons_zero, List.set_cons_succ])))
        refine qs_act ?_
        go_wp2_with fail
        rw [NL.out]
        have D2 := Lib.hid (show Below we.heap.size we we.drew from (Below.refl _ _).drew)
        refine (put_any (bt ++ (l.take i).flatMap (pcB zs ds) ++ litB zs sL) g own2 xL tL we.drew (W2.out.below D2.out) hx1 hk1 (by rw [List.length_append]; omega)).mono ?_
        rintro ev wf ⟨rfl, own3, ho3, hst3⟩
        have S3 := Lib.hid ((S2.out.trans (WrStep.of_below D2.out)).trans hst3)
        have C23 := Lib.hid ((C22.out.below D2.out).step (W2.out.below D2.out) hst3)
        have W3 := Lib.hid ho3
        have Lo3 := Lib.hid (hst3.lo Lo2.out W02.out.size)
        have W03 := Lib.hid (show Below w0.heap.size w0 wf from (W02.out.trans (D2.out.mono W02.out.size)).trans (hst3.below hg Lo2.out W02.out.size))
        clear ho3 hst3 W2 C22 S2 Lo2 W02 a1 x1 x2 D2
        have a1 := keepCell W03.out hgp p1
        have a2 := keepCell W03.out hgp p2
        have x1 := YL.out wf (S3.out.blk HB.out G16.out (by decide) (by decide))
        have x2 := YT.out wf (S3.out.blk HB.out G26.out (by decide) (by decide))
        go_wp2
        refine ⟨⟨a1, x1, x2⟩, ?_⟩
        refine qs_nil ?_
        clear a1 x1 x2
        go_wp2_with fail
        refine (ibcode_any (bt ++ (l.take i).flatMap (pcB zs ds) ++ litB zs sL ++ bitsL xL tL) g own3 ds B1 B2 n2 d1 d2 kD wf W3.out C23.out HD.out (by omega) (by omega) (by rw [List.length_append, List.length_append, bitsL_len]; omega)).mono ?_
        rintro ev wh ⟨rfl, own4, ho4, hst4⟩
        have S4 := Lib.hid (S3.out.trans hst4)
        have W4 := Lib.hid ho4
        have Lo4 := Lib.hid (hst4.lo Lo3.out W03.out.size)
        have W04 := Lib.hid (show Below w0.heap.size w0 wh from W03.out.trans (hst4.below hg Lo3.out W03.out.size))
        clear ho4 hst4 W3 C23 S3 Lo3 W03 a2
        have a2 := keepCell W04.out hgp p2
        have x1 := YD.out wh (S4.out.blk HB.out G36.out (by decide) (by decide))
        have x2 := YX.out wh (S4.out.blk HB.out G46.out (by decide) (by decide))
        go_wp2
        refine wp_region_qs (fun _ w' => w'.cell? ⟨gp, off + i * 3 + 2, none⟩ = some (.int .i64 (p.d : Int)) ∧ w'.cell? ⟨gd, kD, none⟩ = some (.int .i64 bD) ∧ w'.cell? ⟨ge, kD, none⟩ = some (.int .i64 (tD : Int))) [(0, some 0), (1, some 1), (2, some 1), (3, some 1), (4, some 1), (5, some 1), (6, some 1), (7, some 1), (8, some 1), (9, some 1), (10, some 1), (11, some 0), (12, some 1), (13, some 1), (14, some 1), (15, some 0), (16, none)] (by kernel_rfl) (by kernel_rfl) (by kernel_rfl) (by kernel_rfl) (by kernel_rfl) (fun _ _ _ _ _ h => h) ⟨a2, x1, x2⟩ ?_
        simp only [List.map_cons, List.map_nil, List.getD_cons_succ, List.getD_cons_zero]
        (repeat (first | (refine qs_now (v := ?_) (by rfl) ?_ ?_; rotate_left 1; (· (intro w' hS; go_simp; (try (simp only [↓IntWalk.iteOmega]; go_simp)); (try simp (disch := omega) only [IntWalk.i64_in]); try with_reducible rfl)); simp only [Act.put, List.setIfInBounds_toArray, List.set_cons_zero, List.set_cons_succ]) | (refine qs_run (v := ?_) (by rfl) ?_ ?_; rotate_left 1; (· (intro j w' hS; go_simp; (try (simp only [↓IntWalk.iteOmega]; go_simp)); (try simp (disch := omega) only [IntWalk.i64_in]); try with_reducible rfl)); simp only [Act.put, List.setIfInBounds_toArray, List.set_cons_zero, List.set_cons_succ]) | (refine qs_mid (v := ?_) (by rfl) ?_ ?_; rotate_left 1; (· (intro j w' hj1 hj2 hS; go_simp; (try (simp only [↓IntWalk.iteOmega]; go_simp)); (try simp (disch := omega) only [IntWalk.i64_in]); try with_reducible rfl)); simp only [Act.put, List.setIfInBounds_toArray, List.set_cons_zero, List.set_cons_succ]) | (refine qs_skip (by rfl) ?_; simp only [Act.put, List.setIfInBounds_toArray, List.set_cons_zero, List.set_cons_succ])))
        refine qs_act ?_
        go_wp2_with fail
        rw [ND.out]
        have D2 := Lib.hid (show Below wh.heap.size wh wh.drew from (Below.refl _ _).drew)
        refine (put_any (bt ++ (l.take i).flatMap (pcB zs ds) ++ litB zs sL ++ bitsL xL tL ++ litB ds kD) g own4 xD tD wh.drew (W4.out.below D2.out) hx2 hk2 (by rw [List.length_append, List.length_append, List.length_append, bitsL_len]; omega)).mono ?_
        rintro ev wi ⟨rfl, own5, ho5, hst5⟩
        have S5 := Lib.hid ((S4.out.trans (WrStep.of_below D2.out)).trans hst5)
        have W5 := Lib.hid ho5
        have W05 := Lib.hid (show Below w0.heap.size w0 wi from (W04.out.trans (D2.out.mono W04.out.size)).trans (hst5.below hg Lo4.out W04.out.size))
        clear ho5 hst5 W4 S4 Lo4 W04 a2 x1 x2 D2
        have a2 := keepCell W05.out hgp p2
        have x1 := YD.out wi (S5.out.blk HB.out G36.out (by decide) (by decide))
        have x2 := YX.out wi (S5.out.blk HB.out G46.out (by decide) (by decide))
        go_wp2
        refine ⟨⟨a2, x1, x2⟩, ?_⟩
        refine qs_nil ?_
        go_wp2
        go_roundg (gk - 1)
        case measure => omega
        case rel =>
          refine ⟨i + 1, own5, by go_num, by omega, ?_, S5.out⟩
          have h2 := W5.out
          rw [take_getq HP.out, List.flatMap_append, List.flatMap_singleton, HLit.out]
          simpa only [List.append_assoc] using h2
    · go_wp2_with fail
      refine (ibcode_any (bt ++ (l.take i).flatMap (pcB zs ds)) g own1 zs A1 A2 n1 c1 c2 256 wr HW.out HC1r.out HZ.out (by omega) (by omega) (by omega)).mono ?_
      rintro ev wn ⟨rfl, own2, ho2, hst2⟩
      have HO2 := Lib.hid ho2
      have HS2 := Lib.hid (HS.out.trans hst2)
      clear ho2 hst2
      go_wp2
      go_end0
      refine ⟨rfl, own2, ?_, (WrStep.of_below L6.out).trans HS2.out⟩
      have h2 := HO2.out
      rw [List.take_of_length_le (by omega), List.append_assoc] at h2
      unfold pcsB
      exact h2
end Go.Proofs.YtlhaehefhhcgaaaDoor
