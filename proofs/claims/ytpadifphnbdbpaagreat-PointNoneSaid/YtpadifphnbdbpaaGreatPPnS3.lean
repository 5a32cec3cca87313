/-
  what this claim needs of: PnS3 (written by cut.py).
-/
import Derived.Test.YtpadifphnbdbpaaGreatPPnS1
namespace Go.Proofs.YtpadifphnbdbpaaGreat
open Go.RowKit Go.Maps
set_option linter.unusedVariables false
set_option linter.unusedSimpArgs false
def pgA : Sec := ⟨ndRow.take 512, by rw [List.length_take, ndRow_len]; rfl, fun z hz => ndRow_bytes z (List.mem_of_mem_take hz)⟩
def pgB : Sec := ⟨ndRow.drop 512, by rw [List.length_drop, ndRow_len], fun z hz => ndRow_bytes z (List.mem_of_mem_drop hz)⟩
def pgS : List Sec := [pgA, pgB]
theorem pgS_row : secsL pgS = bV ndRow := by
  show secL pgA ++ (secL pgB ++ []) = _
  rw [List.append_nil]
  unfold secL pgA pgB bV
  rw [← List.map_append, List.take_append_drop]
theorem hdRow_sec (h : Hd) : (hdRow h).length = 512 ∧ ∀ z ∈ hdRow h, 0 ≤ z ∧ z < 256 := ⟨hdRow_len h, hdRow_bytes h⟩
def hdS (h : Hd) : Sec := ⟨hdRow h, hdRow_sec h⟩
theorem hdS_row (h : Hd) : secsL [hdS h] = bV (hdRow h) := by
  show secL (hdS h) ++ [] = _
  rw [List.append_nil]
  rfl
/-- What Save's closures find. -/
structure SvB (c : Nat) (Y : Hd) (Ab Hb Bb : Nat) (A : Option Addr) (p : Nat) (W : World) : Prop where
  a : Blk W Ab 29 #[.pointer (some ⟨c, 0, none⟩)]
  h : Blk W Hb 25 (hdC Y).toArray
  b : Blk W Bb 78 #[.slice A 512 p]
  s : BSrc W A 512 (bV (hdRow Y))
  le : 512 ≤ p
section
variable {w w' : World} {c kb d sb ob n N Ab Hb Bb p : Nat} {L : Int → Sec} {Y : Hd} {A : Option Addr}
theorem SvB.cc {W' : World} (S : SvB c Y Ab Hb Bb A p w) (h : CcI w c kb d sb ob n L N) (hT : Tch [c, kb, sb, ob] w W') : SvB c Y Ab Hb Bb A p W' :=
  ⟨S.a.cc h hT (by decide), S.h.cc h hT (by decide), S.b.cc h hT (by decide), h.bsrc S.s hT, S.le⟩
theorem SvB.below {W' : World} (S : SvB c Y Ab Hb Bb A p w) (hb : Below w.heap.size w W') : SvB c Y Ab Hb Bb A p W' :=
  ⟨S.a.below hb S.a.lt, S.h.below hb S.h.lt, S.b.below hb S.b.lt, S.s.below hb, S.le⟩
set_option maxRecDepth 100000 in
set_option maxHeartbeats 1000000 in
theorem sv_cl1 (h : CcI w c kb d sb ob n L N) (hY : HdOk Y) (S : SvB c Y Ab Hb Bb A p w) {Lb nb no q : Nat} (hL : Blk w Lb 64 #[.slice (some ⟨nb, no, none⟩) 1 q]) (hr : w.rangeAt nb no ndE.toList) (hlt : nb < w.heap.size) (m ar : Nat) (hm : Y.num = (m : Int)) (har : (ar : Int) = 2 + 2 * Y.geo.jou + ((m % 2 : Nat) : Int) * (2 * pagesI Y.geo)) (hn : ar + 2 ≤ n) (hN : N ≤ 800000) :
    Calls Tryz.prog 32 #[.pointer (some ⟨Ab, 0, none⟩), .pointer (some ⟨Hb, 0, none⟩), .pointer (some ⟨Lb, 0, none⟩)] w (BlPost w c kb d sb ob n (putL L ar pgS) (N + 2)) := by
  have H := Lib.hid h
  have HY := Lib.hid hY
  have HS := Lib.hid S
  have HL := Lib.hid hL
  have HR := Lib.hid hr
  have HM := Lib.hid (And.intro hm har)
  have HN := Lib.hid (And.intro hlt (And.intro hn hN))
  have hmm : m ≤ 1099511627776 := by have := hY.2.1; omega
  have HMM := Lib.hid hmm
  obtain ⟨x, hx⟩ : ∃ x, Y.num = x := ⟨_, rfl⟩
  have c5 : w.cell? ⟨Hb, 5, none⟩ = some (.int .i64 (m : Int)) := by rw [← hm]; exact S.h.cell rfl
  clear h hY S hL hr hlt hm har hn hN hmm hx x
  go_enter Tryz.func32, Tryz.ntmps32
  go_upto_region 1 with fail
  refine wp_region_qs (fun _ w' => w'.rangeAt Hb 0 (geC Y.geo) ∧ w'.cell? ⟨Hb, 5, none⟩ = some (.int .i64 (m : Int)) ∧ w'.cell? ⟨Ab, 0, none⟩ = some (.pointer (some ⟨c, 0, none⟩)) ∧ w'.cell? ⟨Lb, 0, none⟩ = some (.slice (some ⟨nb, no, none⟩) 1 q)) [(0, some 2), (1, some 3), (2, some 2), (3, some 3), (4, some 2), (6, some 2), (5, none), (7, none), (8, none), (9, some 3)] (by kernel_rfl) (by kernel_rfl) (by kernel_rfl) (by kernel_rfl) (by kernel_rfl) (fun _ _ _ _ _ h => h) ⟨HS.out.h.part 0 (geC Y.geo) rfl, c5, HS.out.a.cell rfl, HL.out.cell rfl⟩ ?_
  simp only [List.map_cons, List.map_nil, List.getD_cons_succ, List.getD_cons_zero]
  (repeat (first | ((first | (refine qs_row (by rfl) 23 (.tmp 5) (by with_reducible rfl) (Hb) 0 (by rfl) (geC Y.geo) _ (fun j w h1 h2 hS => hS.1) Tryz.underlying23 rfl (geC_info _) ?_) | (refine qs_mid (v := ?_) (by rfl) ?_ ?_; rotate_left 1; (· (intro j w' hj1 hj2 hS; have hS1 := hS.2.1; have hS2 := hS.2.2.1; have hS3 := hS.2.2.2; clear hS; go_simp; (try (simp only [↓IntWalk.iteOmega]; go_simp)); (try simp (disch := omega) only [IntWalk.i64_in]); try with_reducible rfl)))); simp only [Act.put, List.setIfInBounds_toArray, List.set_cons_zero, List.set_cons_succ]) | (refine qs_now (v := ?_) (by rfl) ?_ ?_; rotate_left 1; (· (intro w' hS; go_simp; (try (simp only [↓IntWalk.iteOmega]; go_simp)); (try simp (disch := omega) only [IntWalk.i64_in]); try with_reducible rfl)); simp only [Act.put, List.setIfInBounds_toArray, List.set_cons_zero, List.set_cons_succ]) | (refine qs_run (v := ?_) (by rfl) ?_ ?_; rotate_left 1; (· (intro j w' hS; go_simp; (try (simp only [↓IntWalk.iteOmega]; go_simp)); (try simp (disch := omega) only [IntWalk.i64_in]); try with_reducible rfl)); simp only [Act.put, List.setIfInBounds_toArray, List.set_cons_zero, List.set_cons_succ]) | (refine qs_mid (v := ?_) (by rfl) ?_ ?_; rotate_left 1; (· (intro j w' hj1 hj2 hS; go_simp; (try (simp only [↓IntWalk.iteOmega]; go_simp)); (try simp (disch := omega) only [IntWalk.i64_in]); try with_reducible rfl)); simp only [Act.put, List.setIfInBounds_toArray, List.set_cons_zero, List.set_cons_succ]) | (refine qs_skip (by rfl) ?_; simp only [Act.put, List.setIfInBounds_toArray, List.set_cons_zero, List.set_cons_succ])))
  refine qs_act ?_
  go_wp2_with (go_at_call 34; refine (area_any HY.out.1.geB HY.out.1 m HMM.out).mono ?_; rewrite [← HM.out.2]; rintro e w1 ⟨rfl, hl⟩; have X1 := Lib.hid (show Below w.heap.size w w1 from below_chain (Below.refl _ w).drew hl); clear hl)
  have S1 := Lib.hid (HS.out.below X1.out)
  have L1 := Lib.hid (HL.out.below X1.out HL.out.lt)
  have R1 := Lib.hid (range_below HR.out X1.out)
  have C1 := Lib.hid (H.out.below X1.out)
  have d1 := cell_below c5 X1.out
  refine ⟨⟨S1.out.h.part 0 (geC Y.geo) rfl, d1, S1.out.a.cell rfl, L1.out.cell rfl⟩, ?_⟩
  (repeat (first | ((first | (refine qs_row (by rfl) 23 (.tmp 5) (by with_reducible rfl) (Hb) 0 (by rfl) (geC Y.geo) _ (fun j w h1 h2 hS => hS.1) Tryz.underlying23 rfl (geC_info _) ?_) | (refine qs_mid (v := ?_) (by rfl) ?_ ?_; rotate_left 1; (· (intro j w' hj1 hj2 hS; have hS1 := hS.2.1; have hS2 := hS.2.2.1; have hS3 := hS.2.2.2; clear hS; go_simp; (try (simp only [↓IntWalk.iteOmega]; go_simp)); (try simp (disch := omega) only [IntWalk.i64_in]); try with_reducible rfl)))); simp only [Act.put, List.setIfInBounds_toArray, List.set_cons_zero, List.set_cons_succ]) | (refine qs_now (v := ?_) (by rfl) ?_ ?_; rotate_left 1; (· (intro w' hS; go_simp; (try (simp only [↓IntWalk.iteOmega]; go_simp)); (try simp (disch := omega) only [IntWalk.i64_in]); try with_reducible rfl)); simp only [Act.put, List.setIfInBounds_toArray, List.set_cons_zero, List.set_cons_succ]) | (refine qs_run (v := ?_) (by rfl) ?_ ?_; rotate_left 1; (· (intro j w' hS; go_simp; (try (simp only [↓IntWalk.iteOmega]; go_simp)); (try simp (disch := omega) only [IntWalk.i64_in]); try with_reducible rfl)); simp only [Act.put, List.setIfInBounds_toArray, List.set_cons_zero, List.set_cons_succ]) | (refine qs_mid (v := ?_) (by rfl) ?_ ?_; rotate_left 1; (· (intro j w' hj1 hj2 hS; go_simp; (try (simp only [↓IntWalk.iteOmega]; go_simp)); (try simp (disch := omega) only [IntWalk.i64_in]); try with_reducible rfl)); simp only [Act.put, List.setIfInBounds_toArray, List.set_cons_zero, List.set_cons_succ]) | (refine qs_skip (by rfl) ?_; simp only [Act.put, List.setIfInBounds_toArray, List.set_cons_zero, List.set_cons_succ])))
  refine qs_act ?_
  go_wp2_with (go_at_call 35; refine (pt_pages R1.out (by have := HN.out; have := X1.out.size; omega)).mono ?_; rintro e w2 ⟨A2, p2, rfl, ho, hl⟩; have O2 := Lib.hid ho; have X2 := Lib.hid hl; clear ho hl)
  have S2 := Lib.hid (S1.out.below X2.out)
  have L2 := Lib.hid (L1.out.below X2.out L1.out.lt)
  have C2 := Lib.hid (C1.out.below X2.out)
  have d2 := cell_below d1 X2.out
  refine ⟨⟨S2.out.h.part 0 (geC Y.geo) rfl, d2, S2.out.a.cell rfl, L2.out.cell rfl⟩, ?_⟩
  (repeat (first | ((first | (refine qs_row (by rfl) 23 (.tmp 5) (by with_reducible rfl) (Hb) 0 (by rfl) (geC Y.geo) _ (fun j w h1 h2 hS => hS.1) Tryz.underlying23 rfl (geC_info _) ?_) | (refine qs_mid (v := ?_) (by rfl) ?_ ?_; rotate_left 1; (· (intro j w' hj1 hj2 hS; have hS1 := hS.2.1; have hS2 := hS.2.2.1; have hS3 := hS.2.2.2; clear hS; go_simp; (try (simp only [↓IntWalk.iteOmega]; go_simp)); (try simp (disch := omega) only [IntWalk.i64_in]); try with_reducible rfl)))); simp only [Act.put, List.setIfInBounds_toArray, List.set_cons_zero, List.set_cons_succ]) | (refine qs_now (v := ?_) (by rfl) ?_ ?_; rotate_left 1; (· (intro w' hS; go_simp; (try (simp only [↓IntWalk.iteOmega]; go_simp)); (try simp (disch := omega) only [IntWalk.i64_in]); try with_reducible rfl)); simp only [Act.put, List.setIfInBounds_toArray, List.set_cons_zero, List.set_cons_succ]) | (refine qs_run (v := ?_) (by rfl) ?_ ?_; rotate_left 1; (· (intro j w' hS; go_simp; (try (simp only [↓IntWalk.iteOmega]; go_simp)); (try simp (disch := omega) only [IntWalk.i64_in]); try with_reducible rfl)); simp only [Act.put, List.setIfInBounds_toArray, List.set_cons_zero, List.set_cons_succ]) | (refine qs_mid (v := ?_) (by rfl) ?_ ?_; rotate_left 1; (· (intro j w' hj1 hj2 hS; go_simp; (try (simp only [↓IntWalk.iteOmega]; go_simp)); (try simp (disch := omega) only [IntWalk.i64_in]); try with_reducible rfl)); simp only [Act.put, List.setIfInBounds_toArray, List.set_cons_zero, List.set_cons_succ]) | (refine qs_skip (by rfl) ?_; simp only [Act.put, List.setIfInBounds_toArray, List.set_cons_zero, List.set_cons_succ])))
  have Q2 := Lib.hid (own_slice O2.out)
  have HB2 := Lib.hid (show BSrc w2 A2 (512 * pgS.length) (secsL pgS) by rw [pgS_row]; exact BSrc.of_own O2.out (show 0 < 1024 by omega))
  refine qs_act ?_
  go_wp2_with (go_at_call 33; refine (bl_write C2.out ar pgS ⟨by decide, by decide⟩ (by have := HN.out; show ar + 2 ≤ n; omega) HB2.out (by obtain ⟨A', c', he, hc⟩ := Q2.out; injection he with h1 h2 h3; show 512 * 2 ≤ _; omega) (by have := HN.out; show N + 2 ≤ _; omega)).mono ?_; rintro e w3 ⟨rfl, hC, hT⟩; have C3 := Lib.hid hC; have T3 := Lib.hid hT; clear hC hT)
  have S3 := Lib.hid (S2.out.cc C2.out T3.out)
  have L3 := Lib.hid (L2.out.cc C2.out T3.out (by decide))
  have d3 : w3.cell? ⟨Hb, 5, none⟩ = some (.int .i64 (m : Int)) := by rw [← HM.out.1]; exact S3.out.h.cell rfl
  refine ⟨⟨S3.out.h.part 0 (geC Y.geo) rfl, d3, S3.out.a.cell rfl, L3.out.cell rfl⟩, ?_⟩
  (repeat (first | ((first | (refine qs_row (by rfl) 23 (.tmp 5) (by with_reducible rfl) (Hb) 0 (by rfl) (geC Y.geo) _ (fun j w h1 h2 hS => hS.1) Tryz.underlying23 rfl (geC_info _) ?_) | (refine qs_mid (v := ?_) (by rfl) ?_ ?_; rotate_left 1; (· (intro j w' hj1 hj2 hS; have hS1 := hS.2.1; have hS2 := hS.2.2.1; have hS3 := hS.2.2.2; clear hS; go_simp; (try (simp only [↓IntWalk.iteOmega]; go_simp)); (try simp (disch := omega) only [IntWalk.i64_in]); try with_reducible rfl)))); simp only [Act.put, List.setIfInBounds_toArray, List.set_cons_zero, List.set_cons_succ]) | (refine qs_now (v := ?_) (by rfl) ?_ ?_; rotate_left 1; (· (intro w' hS; go_simp; (try (simp only [↓IntWalk.iteOmega]; go_simp)); (try simp (disch := omega) only [IntWalk.i64_in]); try with_reducible rfl)); simp only [Act.put, List.setIfInBounds_toArray, List.set_cons_zero, List.set_cons_succ]) | (refine qs_run (v := ?_) (by rfl) ?_ ?_; rotate_left 1; (· (intro j w' hS; go_simp; (try (simp only [↓IntWalk.iteOmega]; go_simp)); (try simp (disch := omega) only [IntWalk.i64_in]); try with_reducible rfl)); simp only [Act.put, List.setIfInBounds_toArray, List.set_cons_zero, List.set_cons_succ]) | (refine qs_mid (v := ?_) (by rfl) ?_ ?_; rotate_left 1; (· (intro j w' hj1 hj2 hS; go_simp; (try (simp only [↓IntWalk.iteOmega]; go_simp)); (try simp (disch := omega) only [IntWalk.i64_in]); try with_reducible rfl)); simp only [Act.put, List.setIfInBounds_toArray, List.set_cons_zero, List.set_cons_succ]) | (refine qs_skip (by rfl) ?_; simp only [Act.put, List.setIfInBounds_toArray, List.set_cons_zero, List.set_cons_succ])))
  refine qs_nil ?_
  go_wp2_with fail
  go_ret
  exact ⟨rfl, C3.out, ((Tch.below X1.out).trans (Tch.below X2.out)).trans T3.out⟩
set_option maxRecDepth 100000 in
set_option maxHeartbeats 1000000 in
theorem sv_cl2 (h : CcI w c kb d sb ob n L N) (hY : HdOk Y) (S : SvB c Y Ab Hb Bb A p w) (m J hf : Nat) (hm : Y.num = (m : Int)) (hJ : (J : Int) = Y.geo.jou) (hhf : (hf : Int) = 2 + ((m % 2 : Nat) : Int) * Y.geo.jou) (hn : secsI Y.geo ≤ n) (hN : N ≤ 800000) :
    Calls Tryz.prog 36 #[.pointer (some ⟨Ab, 0, none⟩), .pointer (some ⟨Hb, 0, none⟩)] w (BlPost w c kb d sb ob n (putL L hf (List.replicate J zSec)) (N + J)) := by
  have hmm : m ≤ 1099511627776 := by have := hY.2.1; omega
  have Q := Lib.hid (jr_clear h hY.1.geB hY.1 hn m hmm hN J hf hJ hhf)
  have c5 : w.cell? ⟨Hb, 5, none⟩ = some (.int .i64 (m : Int)) := by rw [← hm]; exact S.h.cell rfl
  have c0 : w.cell? ⟨Ab, 0, none⟩ = some (.pointer (some ⟨c, 0, none⟩)) := S.a.cell rfl
  have HS := Lib.hid S
  clear h hY S hm hJ hhf hn hN hmm
  go_enter Tryz.func36, Tryz.ntmps36
  go_wp2_with (first
    | (refine wpList_load_mid rfl 23 (.tmp 4) (by rfl) Hb 0 (by rfl) (geC Y.geo) _ (HS.out.h.part 0 (geC Y.geo) rfl) Tryz.underlying23 rfl (geC_info _) ?_; simp only [Act.put, List.setIfInBounds_toArray, List.set_cons_zero, List.set_cons_succ])
    | (go_at_call 37; refine Q.out.mono ?_; rintro e w3 ⟨rfl, hC, hT⟩; have C3 := Lib.hid hC; have T3 := Lib.hid hT; clear hC hT))
  go_ret
  exact ⟨rfl, C3.out, T3.out⟩
set_option maxRecDepth 100000 in
set_option maxHeartbeats 1000000 in
theorem sv_cl3 (h : CcI w c kb d sb ob n L N) (hY : HdOk Y) (S : SvB c Y Ab Hb Bb A p w) (m : Nat) (hm : Y.num = (m : Int)) (hn : 2 ≤ n) (hN : N ≤ 800000) :
    Calls Tryz.prog 39 #[.pointer (some ⟨Ab, 0, none⟩), .pointer (some ⟨Hb, 0, none⟩), .pointer (some ⟨Bb, 0, none⟩)] w (BlPost w c kb d sb ob n (putL L (m % 2) [hdS Y]) (N + 1)) := by
  have H := Lib.hid h
  have HY := Lib.hid hY
  have HS := Lib.hid S
  have HM := Lib.hid hm
  have HN := Lib.hid (And.intro hn hN)
  have hmm : m ≤ 1099511627776 := by have := hY.2.1; omega
  have HMM := Lib.hid hmm
  have c5 : w.cell? ⟨Hb, 5, none⟩ = some (.int .i64 (m : Int)) := by rw [← hm]; exact S.h.cell rfl
  clear h hY S hm hn hN hmm
  go_enter Tryz.func39, Tryz.ntmps39
  go_upto_region 1 with fail
  refine wp_region_qs (fun _ w' => w'.rangeAt Hb 0 (geC Y.geo) ∧ w'.cell? ⟨Hb, 5, none⟩ = some (.int .i64 (m : Int)) ∧ w'.cell? ⟨Ab, 0, none⟩ = some (.pointer (some ⟨c, 0, none⟩)) ∧ w'.cell? ⟨Bb, 0, none⟩ = some (.slice A 512 p)) [(0, some 1), (1, some 2), (2, some 1), (3, some 2), (4, some 1), (6, some 1), (5, none), (7, none), (8, some 2)] (by kernel_rfl) (by kernel_rfl) (by kernel_rfl) (by kernel_rfl) (by kernel_rfl) (fun _ _ _ _ _ h => h) ⟨HS.out.h.part 0 (geC Y.geo) rfl, c5, HS.out.a.cell rfl, HS.out.b.cell rfl⟩ ?_
  simp only [List.map_cons, List.map_nil, List.getD_cons_succ, List.getD_cons_zero]
  (repeat (first | ((first | (refine qs_row (by rfl) 23 (.tmp 5) (by with_reducible rfl) (Hb) 0 (by rfl) (geC Y.geo) _ (fun j w h1 h2 hS => hS.1) Tryz.underlying23 rfl (geC_info _) ?_) | (refine qs_mid (v := ?_) (by rfl) ?_ ?_; rotate_left 1; (· (intro j w' hj1 hj2 hS; have hS1 := hS.2.1; have hS2 := hS.2.2.1; have hS3 := hS.2.2.2; clear hS; go_simp; (try (simp only [↓IntWalk.iteOmega]; go_simp)); (try simp (disch := omega) only [IntWalk.i64_in]); try with_reducible rfl)))); simp only [Act.put, List.setIfInBounds_toArray, List.set_cons_zero, List.set_cons_succ]) | (refine qs_now (v := ?_) (by rfl) ?_ ?_; rotate_left 1; (· (intro w' hS; go_simp; (try (simp only [↓IntWalk.iteOmega]; go_simp)); (try simp (disch := omega) only [IntWalk.i64_in]); try with_reducible rfl)); simp only [Act.put, List.setIfInBounds_toArray, List.set_cons_zero, List.set_cons_succ]) | (refine qs_run (v := ?_) (by rfl) ?_ ?_; rotate_left 1; (· (intro j w' hS; go_simp; (try (simp only [↓IntWalk.iteOmega]; go_simp)); (try simp (disch := omega) only [IntWalk.i64_in]); try with_reducible rfl)); simp only [Act.put, List.setIfInBounds_toArray, List.set_cons_zero, List.set_cons_succ]) | (refine qs_mid (v := ?_) (by rfl) ?_ ?_; rotate_left 1; (· (intro j w' hj1 hj2 hS; go_simp; (try (simp only [↓IntWalk.iteOmega]; go_simp)); (try simp (disch := omega) only [IntWalk.i64_in]); try with_reducible rfl)); simp only [Act.put, List.setIfInBounds_toArray, List.set_cons_zero, List.set_cons_succ]) | (refine qs_skip (by rfl) ?_; simp only [Act.put, List.setIfInBounds_toArray, List.set_cons_zero, List.set_cons_succ])))
  refine qs_act ?_
  go_wp2_with (go_at_call 40; refine (slot_any HY.out.1.geB HY.out.1 m HMM.out).mono ?_; rintro e w1 ⟨rfl, hl⟩; have X1 := Lib.hid (show Below w.heap.size w w1 from below_chain (Below.refl _ w).drew hl); clear hl)
  have S1 := Lib.hid (HS.out.below X1.out)
  have C1 := Lib.hid (H.out.below X1.out)
  have d1 := cell_below c5 X1.out
  refine ⟨⟨S1.out.h.part 0 (geC Y.geo) rfl, d1, S1.out.a.cell rfl, S1.out.b.cell rfl⟩, ?_⟩
  (repeat (first | ((first | (refine qs_row (by rfl) 23 (.tmp 5) (by with_reducible rfl) (Hb) 0 (by rfl) (geC Y.geo) _ (fun j w h1 h2 hS => hS.1) Tryz.underlying23 rfl (geC_info _) ?_) | (refine qs_mid (v := ?_) (by rfl) ?_ ?_; rotate_left 1; (· (intro j w' hj1 hj2 hS; have hS1 := hS.2.1; have hS2 := hS.2.2.1; have hS3 := hS.2.2.2; clear hS; go_simp; (try (simp only [↓IntWalk.iteOmega]; go_simp)); (try simp (disch := omega) only [IntWalk.i64_in]); try with_reducible rfl)))); simp only [Act.put, List.setIfInBounds_toArray, List.set_cons_zero, List.set_cons_succ]) | (refine qs_now (v := ?_) (by rfl) ?_ ?_; rotate_left 1; (· (intro w' hS; go_simp; (try (simp only [↓IntWalk.iteOmega]; go_simp)); (try simp (disch := omega) only [IntWalk.i64_in]); try with_reducible rfl)); simp only [Act.put, List.setIfInBounds_toArray, List.set_cons_zero, List.set_cons_succ]) | (refine qs_run (v := ?_) (by rfl) ?_ ?_; rotate_left 1; (· (intro j w' hS; go_simp; (try (simp only [↓IntWalk.iteOmega]; go_simp)); (try simp (disch := omega) only [IntWalk.i64_in]); try with_reducible rfl)); simp only [Act.put, List.setIfInBounds_toArray, List.set_cons_zero, List.set_cons_succ]) | (refine qs_mid (v := ?_) (by rfl) ?_ ?_; rotate_left 1; (· (intro j w' hj1 hj2 hS; go_simp; (try (simp only [↓IntWalk.iteOmega]; go_simp)); (try simp (disch := omega) only [IntWalk.i64_in]); try with_reducible rfl)); simp only [Act.put, List.setIfInBounds_toArray, List.set_cons_zero, List.set_cons_succ]) | (refine qs_skip (by rfl) ?_; simp only [Act.put, List.setIfInBounds_toArray, List.set_cons_zero, List.set_cons_succ])))
  have HB2 := Lib.hid (show BSrc w1 A (512 * [hdS Y].length) (secsL [hdS Y]) by rw [hdS_row]; exact S1.out.s)
  refine qs_act ?_
  go_wp2_with (go_at_call 33; refine (bl_write C1.out (m % 2) [hdS Y] ⟨by simp, by simp⟩ (by have := HN.out; show m % 2 + 1 ≤ n; omega) HB2.out (show 512 * 1 ≤ p from S1.out.le) (by have := HN.out; show N + 1 ≤ _; omega)).mono ?_; rintro e w3 ⟨rfl, hC, hT⟩; have C3 := Lib.hid hC; have T3 := Lib.hid hT; clear hC hT)
  have S3 := Lib.hid (S1.out.cc C1.out T3.out)
  have d3 : w3.cell? ⟨Hb, 5, none⟩ = some (.int .i64 (m : Int)) := by rw [← HM.out]; exact S3.out.h.cell rfl
  refine ⟨⟨S3.out.h.part 0 (geC Y.geo) rfl, d3, S3.out.a.cell rfl, S3.out.b.cell rfl⟩, ?_⟩
  (repeat (first | ((first | (refine qs_row (by rfl) 23 (.tmp 5) (by with_reducible rfl) (Hb) 0 (by rfl) (geC Y.geo) _ (fun j w h1 h2 hS => hS.1) Tryz.underlying23 rfl (geC_info _) ?_) | (refine qs_mid (v := ?_) (by rfl) ?_ ?_; rotate_left 1; (· (intro j w' hj1 hj2 hS; have hS1 := hS.2.1; have hS2 := hS.2.2.1; have hS3 := hS.2.2.2; clear hS; go_simp; (try (simp only [↓IntWalk.iteOmega]; go_simp)); (try simp (disch := omega) only [IntWalk.i64_in]); try with_reducible rfl)))); simp only [Act.put, List.setIfInBounds_toArray, List.set_cons_zero, List.set_cons_succ]) | (refine qs_now (v := ?_) (by rfl) ?_ ?_; rotate_left 1; (· (intro w' hS; go_simp; (try (simp only [↓IntWalk.iteOmega]; go_simp)); (try simp (disch := omega) only [IntWalk.i64_in]); try with_reducible rfl)); simp only [Act.put, List.setIfInBounds_toArray, List.set_cons_zero, List.set_cons_succ]) | (refine qs_run (v := ?_) (by rfl) ?_ ?_; rotate_left 1; (· (intro j w' hS; go_simp; (try (simp only [↓IntWalk.iteOmega]; go_simp)); (try simp (disch := omega) only [IntWalk.i64_in]); try with_reducible rfl)); simp only [Act.put, List.setIfInBounds_toArray, List.set_cons_zero, List.set_cons_succ]) | (refine qs_mid (v := ?_) (by rfl) ?_ ?_; rotate_left 1; (· (intro j w' hj1 hj2 hS; go_simp; (try (simp only [↓IntWalk.iteOmega]; go_simp)); (try simp (disch := omega) only [IntWalk.i64_in]); try with_reducible rfl)); simp only [Act.put, List.setIfInBounds_toArray, List.set_cons_zero, List.set_cons_succ]) | (refine qs_skip (by rfl) ?_; simp only [Act.put, List.setIfInBounds_toArray, List.set_cons_zero, List.set_cons_succ])))
  refine qs_nil ?_
  go_wp2_with fail
  go_ret
  exact ⟨rfl, C3.out, (Tch.below X1.out).trans T3.out⟩
end
end Go.Proofs.YtpadifphnbdbpaaGreat
