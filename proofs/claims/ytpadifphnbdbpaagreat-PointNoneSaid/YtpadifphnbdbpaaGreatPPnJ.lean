/-
  what this claim needs of: PnJ, PnJ2 (written by cut.py).
-/
import Derived.Test.YtpadifphnbdbpaaGreatPPnB1
import Derived.Test.YtpadifphnbdbpaaGreatPPnL
import Derived.Test.YtpadifphnbdbpaaGreatPStFk
namespace Go.Proofs.YtpadifphnbdbpaaGreat
open Go.RowKit Go.Maps
set_option linter.unusedVariables false
set_option linter.unusedSimpArgs false
theorem zsecs (j : Nat) : secsL (List.replicate j zSec) = List.replicate (512 * j) (Value.int .u8 0) := by
  have hz : secL zSec = List.replicate 512 (Value.int .u8 0) := by unfold secL zSec; rw [List.map_replicate]
  induction j with
  | zero => rfl
  | succ j ih =>
    rw [List.replicate_succ]
    show secL zSec ++ secsL (List.replicate j zSec) = _
    rw [ih, hz, List.replicate_append_replicate]
    congr 1
    omega
section
variable {w w' : World} {c kb d sb ob n : Nat} {L : Int → Sec} {N : Nat} {g : Geo}
set_option maxRecDepth 100000 in
set_option maxHeartbeats 1000000 in
theorem jr_may (h : CcI w c kb d sb ob n L N) (hg : GeB g) (hr : RightP g) (hn : secsI g ≤ n) (ep : Nat) (he : ep ≤ 1099511627776) :
    Calls Tryz.prog 79 #[.pointer (some ⟨c, 0, none⟩), .agg (geC g).toArray, .int .i64 (ep : Int)] w fun e w' => e = .returned (.int .i64 0) ∧ Below w.heap.size w w' := by
  have H := Lib.hid h
  have HG := Lib.hid hg
  have hdt : decide (RightP g) = true := decide_eq_true hr
  have hsg : secsG g = secsI g := by unfold secsG; rw [if_pos hr]
  have HS := Lib.hid hsg
  have hq1 : ¬ (n : Int) = 0 := by have := h.rng; omega
  have hq1b : ((n : Int) == 0) = false := beq_eq_false_iff_ne.2 hq1
  have hq2 : ¬ (ep : Int) < 0 := by omega
  have hq3 : ¬ (1099511627776 : Int) < (ep : Int) := by omega
  have hq4 : ¬ (n : Int) < secsI g := by omega
  have hq5 : decide ((ep : Int) < 0) = false := decide_eq_false hq2
  have hq6 : decide ((1099511627776 : Int) < (ep : Int)) = false := decide_eq_false hq3
  clear h hg hr hn he hsg
  go_enter Tryz.func79, Tryz.ntmps79
  go_upto_region 3 with (first
    | (refine wpl_box rfl 23 (.tmp 1) rfl _ rfl ?_; intro w1 hk hg hz; have K := Lib.hid hk; have L1 := Lib.hid (bl_n (Below.refl _ _) hg); have H1 := Lib.hid (H.out.below L1.out); clear hk hg hz)
    | (go_at_call 20; refine (ci_sectors H1.out).mono ?_; rintro e w2 ⟨rfl, rfl⟩))
  refine wp_region_qs (fun _ w' => w'.rangeAt w.heap.size 0 (geC g)) [(0, some 2), (1, none), (2, some 3), (3, some 3), (4, some 3), (5, some 3), (6, some 3), (7, some 3), (8, some 3), (9, some 3), (10, some 3), (11, some 1), (12, some 2), (14, some 2), (13, none), (15, none), (16, some 3), (17, some 3), (18, some 3)] (by kernel_rfl) (by kernel_rfl) (by kernel_rfl) (by kernel_rfl) (by kernel_rfl) (fun _ _ _ _ _ h => h) (by have := K.out.drew.range; rwa [List.toList_toArray] at this) ?_
  simp only [List.map_cons, List.map_nil, List.getD_cons_succ, List.getD_cons_zero]
  (repeat (first | ((refine qs_row (by rfl) 23 (.tmp 4) (by rfl) w.heap.size 0 (by rfl) (geC g) _ (fun j w' _ h2 h => h) Tryz.underlying23 rfl (geC_info _) ?_); simp only [Act.put, List.setIfInBounds_toArray, List.set_cons_zero, List.set_cons_succ]) | (refine qs_now (v := ?_) (by rfl) ?_ ?_; rotate_left 1; (· (intro w' hS; go_simp; (try (simp only [↓IntWalk.iteOmega]; go_simp)); (try simp (disch := omega) only [IntWalk.i64_in]); try with_reducible rfl)); simp only [Act.put, List.setIfInBounds_toArray, List.set_cons_zero, List.set_cons_succ]) | (refine qs_run (v := ?_) (by rfl) ?_ ?_; rotate_left 1; (· (intro j w' hS; go_simp; (try (simp only [↓IntWalk.iteOmega]; go_simp)); (try simp (disch := omega) only [IntWalk.i64_in]); try with_reducible rfl)); simp only [Act.put, List.setIfInBounds_toArray, List.set_cons_zero, List.set_cons_succ]) | (refine qs_mid (v := ?_) (by rfl) ?_ ?_; rotate_left 1; (· (intro j w' hj1 hj2 hS; go_simp; (try (simp only [↓IntWalk.iteOmega]; go_simp)); (try simp (disch := omega) only [IntWalk.i64_in]); try with_reducible rfl)); simp only [Act.put, List.setIfInBounds_toArray, List.set_cons_zero, List.set_cons_succ]) | (refine qs_skip (by rfl) ?_; simp only [Act.put, List.setIfInBounds_toArray, List.set_cons_zero, List.set_cons_succ])))
  refine qs_act ?_
  go_wp2_with (go_at_call 27; refine (right_any HG.out).mono ?_; rewrite [hdt]; rintro e w4 ⟨rfl, hb⟩; have L4 := Lib.hid (below_chain L1.out.drew hb); have K4 := Lib.hid (K.out.drew.below hb K.out.lt); have H4 := Lib.hid (H.out.below L4.out); clear hb)
  refine ⟨by have := K4.out.range; rwa [List.toList_toArray] at this, ?_⟩
  (repeat (first | ((refine qs_row (by rfl) 23 (.tmp 4) (by rfl) w.heap.size 0 (by rfl) (geC g) _ (fun j w' _ h2 h => h) Tryz.underlying23 rfl (geC_info _) ?_); simp only [Act.put, List.setIfInBounds_toArray, List.set_cons_zero, List.set_cons_succ]) | (refine qs_now (v := ?_) (by rfl) ?_ ?_; rotate_left 1; (· (intro w' hS; go_simp; (try (simp only [↓IntWalk.iteOmega]; go_simp)); (try simp (disch := omega) only [IntWalk.i64_in]); try with_reducible rfl)); simp only [Act.put, List.setIfInBounds_toArray, List.set_cons_zero, List.set_cons_succ]) | (refine qs_run (v := ?_) (by rfl) ?_ ?_; rotate_left 1; (· (intro j w' hS; go_simp; (try (simp only [↓IntWalk.iteOmega]; go_simp)); (try simp (disch := omega) only [IntWalk.i64_in]); try with_reducible rfl)); simp only [Act.put, List.setIfInBounds_toArray, List.set_cons_zero, List.set_cons_succ]) | (refine qs_mid (v := ?_) (by rfl) ?_ ?_; rotate_left 1; (· (intro j w' hj1 hj2 hS; go_simp; (try (simp only [↓IntWalk.iteOmega]; go_simp)); (try simp (disch := omega) only [IntWalk.i64_in]); try with_reducible rfl)); simp only [Act.put, List.setIfInBounds_toArray, List.set_cons_zero, List.set_cons_succ]) | (refine qs_skip (by rfl) ?_; simp only [Act.put, List.setIfInBounds_toArray, List.set_cons_zero, List.set_cons_succ])))
  refine qs_act ?_
  go_wp2_with (go_at_call 20; refine (ci_sectors H4.out).mono ?_; rintro e w5 ⟨rfl, rfl⟩)
  refine ⟨by have := K4.out.range; rwa [List.toList_toArray] at this, ?_⟩
  (repeat (first | ((refine qs_row (by rfl) 23 (.tmp 4) (by rfl) w.heap.size 0 (by rfl) (geC g) _ (fun j w' _ h2 h => h) Tryz.underlying23 rfl (geC_info _) ?_); simp only [Act.put, List.setIfInBounds_toArray, List.set_cons_zero, List.set_cons_succ]) | (refine qs_now (v := ?_) (by rfl) ?_ ?_; rotate_left 1; (· (intro w' hS; go_simp; (try (simp only [↓IntWalk.iteOmega]; go_simp)); (try simp (disch := omega) only [IntWalk.i64_in]); try with_reducible rfl)); simp only [Act.put, List.setIfInBounds_toArray, List.set_cons_zero, List.set_cons_succ]) | (refine qs_run (v := ?_) (by rfl) ?_ ?_; rotate_left 1; (· (intro j w' hS; go_simp; (try (simp only [↓IntWalk.iteOmega]; go_simp)); (try simp (disch := omega) only [IntWalk.i64_in]); try with_reducible rfl)); simp only [Act.put, List.setIfInBounds_toArray, List.set_cons_zero, List.set_cons_succ]) | (refine qs_mid (v := ?_) (by rfl) ?_ ?_; rotate_left 1; (· (intro j w' hj1 hj2 hS; go_simp; (try (simp only [↓IntWalk.iteOmega]; go_simp)); (try simp (disch := omega) only [IntWalk.i64_in]); try with_reducible rfl)); simp only [Act.put, List.setIfInBounds_toArray, List.set_cons_zero, List.set_cons_succ]) | (refine qs_skip (by rfl) ?_; simp only [Act.put, List.setIfInBounds_toArray, List.set_cons_zero, List.set_cons_succ])))
  refine qs_act ?_
  go_wp2_with (go_at_call 14; refine (secs_any HG.out).mono ?_; rewrite [HS.out]; rintro e w6 ⟨rfl, hb⟩; have L6 := Lib.hid (below_chain L4.out hb); have K6 := Lib.hid (K4.out.below hb K4.out.lt); clear hb)
  refine ⟨by have := K6.out.range; rwa [List.toList_toArray] at this, ?_⟩
  (repeat (first | (refine qs_now (v := ?_) (by rfl) ?_ ?_; rotate_left 1; (· (intro w' hS; go_simp; (try (simp only [↓IntWalk.iteOmega]; go_simp)); (try simp (disch := omega) only [IntWalk.i64_in]); try with_reducible rfl)); simp only [Act.put, List.setIfInBounds_toArray, List.set_cons_zero, List.set_cons_succ]) | (refine qs_run (v := ?_) (by rfl) ?_ ?_; rotate_left 1; (· (intro j w' hS; go_simp; (try (simp only [↓IntWalk.iteOmega]; go_simp)); (try simp (disch := omega) only [IntWalk.i64_in]); try with_reducible rfl)); simp only [Act.put, List.setIfInBounds_toArray, List.set_cons_zero, List.set_cons_succ]) | (refine qs_mid (v := ?_) (by rfl) ?_ ?_; rotate_left 1; (· (intro j w' hj1 hj2 hS; go_simp; (try (simp only [↓IntWalk.iteOmega]; go_simp)); (try simp (disch := omega) only [IntWalk.i64_in]); try with_reducible rfl)); simp only [Act.put, List.setIfInBounds_toArray, List.set_cons_zero, List.set_cons_succ]) | (refine qs_skip (by rfl) ?_; simp only [Act.put, List.setIfInBounds_toArray, List.set_cons_zero, List.set_cons_succ])))
  refine qs_nil ?_
  go_wp2_with fail
  go_ret
  exact ⟨rfl, L6.out⟩
end
end Go.Proofs.YtpadifphnbdbpaaGreat
namespace Go.Proofs.YtpadifphnbdbpaaGreat
open Go.RowKit Go.Maps
set_option linter.unusedVariables false
set_option linter.unusedSimpArgs false
section
variable {w w' : World} {c kb d sb ob n : Nat} {L : Int → Sec} {N : Nat} {g : Geo}
theorem bl_zeros (h : CcI w c kb d sb ob n L N) (hf J : Nat) (hJ : 1 ≤ J ∧ J ≤ 1024) (hn : hf + J ≤ n) {A : Option Addr} {cap : Nat} (hs : BSrc w A (512 * J) (List.replicate (512 * J) (Value.int .u8 0))) (hc : 512 * J ≤ cap) (hN : N + J ≤ 900000) :
    Calls Tryz.prog 33 #[.pointer (some ⟨c, 0, none⟩), .int .i64 (hf : Int), .slice A (512 * J) cap] w (BlPost w c kb d sb ob n (putL L hf (List.replicate J zSec)) (N + J)) := by
  have hl : (List.replicate J zSec).length = J := List.length_replicate
  have := bl_write h hf (List.replicate J zSec) (by rw [hl]; exact hJ) (by rw [hl]; exact hn) (A := A) (cap := cap) (by rw [hl, zsecs]; exact hs) (by rw [hl]; exact hc) (by rw [hl]; exact hN)
  rw [hl] at this
  exact this
theorem Blk.cc {W W' : World} {b : Nat} {t : TypeId} {cs : Array Value} (hb : Blk W b t cs) (h : CcI W c kb d sb ob n L N) (hT : Tch [c, kb, sb, ob] W W') (ht : t ≠ 56) : Blk W' b t cs := hb.tch hT (h.noBlk hb ht)
def ClrR (w : World) (c kb d sb ob n : Nat) (L : Int → Sec) (N : Nat) (v : Value) (w' : World) : Prop := CcI w' c kb d sb ob n L N ∧ Tch [c, kb, sb, ob] w w'
set_option maxRecDepth 100000 in
set_option maxHeartbeats 1000000 in
theorem jr_clear (h : CcI w c kb d sb ob n L N) (hg : GeB g) (hr : RightP g) (hn : secsI g ≤ n) (ep : Nat) (he : ep ≤ 1099511627776) (hN : N ≤ 800000) (J hf : Nat) (hJ : (J : Int) = g.jou) (hhf : (hf : Int) = 2 + ((ep % 2 : Nat) : Int) * g.jou) :
    Calls Tryz.prog 37 #[.pointer (some ⟨c, 0, none⟩), .agg (geC g).toArray, .int .i64 (ep : Int)] w (BlPost w c kb d sb ob n (putL L hf (List.replicate J zSec)) (N + J)) := by
  have H := Lib.hid h
  have HG := Lib.hid hg
  have HR := Lib.hid hr
  have HN := Lib.hid (And.intro hn (And.intro he hN))
  have HJ := Lib.hid hJ
  have HH := Lib.hid hhf
  have HM := Lib.hid (jr_may h hg hr hn ep he)
  have hj := hr.1.2.2.2.2.2
  have hq1 : IntKind.i64.wrap (512 * g.jou) = ((512 * J : Nat) : Int) := by rw [IntWalk.i64_in _ (by omega)]; omega
  have hq2 : g.jou = (J : Int) := hJ.symm
  have HQ1 := Lib.hid hq1
  have HB := Lib.hid (show 8 ≤ J ∧ J ≤ 64 ∧ hf + J ≤ n by
    have h1 := hr.1.pages
    have h2 := hr.1.prod
    unfold secsI at hn
    have h3 : ((ep % 2 : Nat) : Int) = 0 ∨ ((ep % 2 : Nat) : Int) = 1 := by omega
    rcases h3 with h3 | h3 <;> rw [h3] at hhf <;> omega)
  clear h hg hr hn he hN hJ hhf hq1 hq2 hj
  go_enter Tryz.func37, Tryz.ntmps37
  go_upto_region 4 with (first
    | (go_at_call 79; refine (jr_may H1.out HG.out HR.out HN.out.1 ep HN.out.2.1).mono ?_; rintro e w2 ⟨rfl, hb⟩; have L2 := Lib.hid (below_chain L1.out hb); have K2 := Lib.hid (K.out.below hb K.out.lt); have RG2 := Lib.hid (show w2.rangeAt w.heap.size 0 (geC g) by have := K2.out.range; rwa [List.toList_toArray] at this); clear hb)
    | (refine wpList_load_mid rfl 23 (.tmp 4) (by rfl) w.heap.size 0 (by rfl) (geC g) _ RG.out Tryz.underlying23 rfl (geC_info g) ?_; simp only [Act.put, List.setIfInBounds_toArray, List.set_cons_zero, List.set_cons_succ])
    | (refine wpl_box rfl 23 (.tmp 1) rfl _ rfl ?_; intro w1 hk hg hz; have K := Lib.hid hk; have L1 := Lib.hid (bl_n (Below.refl _ _) hg); have H1 := Lib.hid (H.out.below L1.out); have RG := Lib.hid (show w1.rangeAt w.heap.size 0 (geC g) by have := K.out.range; rwa [List.toList_toArray] at this); clear hk hg hz))
  have H2 := Lib.hid (H.out.below L2.out)
  have T2 := Lib.hid (show Tch [c, kb, sb, ob] w w2 from Tch.below L2.out)
  clear K L1 H1 RG RG2 HM
  have hq1 := HQ1.out
  refine wp_region_two (fun _ w' => w'.rangeAt w.heap.size 0 (geC g) ∧ w'.cell? ⟨w.heap.size, 4, none⟩ = some (.int .i64 g.jou)) [3, 7, 8] [(0, 2), (1, 2), (2, 2), (4, 3), (5, 3), (6, 2)] 3 7 [(7, none), (8, none), (9, some 3)] [(3, none), (8, none), (9, some 3)]
    (ClrR w c kb d sb ob n (putL L hf (List.replicate J zSec)) (N + J))
    (fun a v => (((((((((a.put (some 15) (.pointer (some ⟨c, 0, none⟩))).put (some 16) (.agg (geC g).toArray)).put (some 17) (.int .i64 (ep : Int))).put (some 19) (.pointer (some ⟨w.heap.size, 4, none⟩))).put (some 20) (.int .i64 g.jou)).put (some 21) (.int .i64 ((512 * J : Nat) : Int))).put (some 18) (.int .i64 (hf : Int))).put (some 22) v).put (some 23) (.int .i64 0)).put (some 6) (.int .i64 0))
    _ _ (by kernel_rfl) rfl rfl (by kernel_rfl) (by kernel_rfl) (by kernel_rfl) (by kernel_rfl) (by kernel_rfl) (by kernel_rfl) (by kernel_rfl) (by kernel_rfl) rfl rfl ⟨by have := K2.out.drew.range; rwa [List.toList_toArray] at this, K2.out.drew.cell rfl⟩ ?_ ?_
  · simp only [List.map_cons, List.map_nil, List.getD_cons_succ, List.getD_cons_zero]
    (repeat (first | ((refine qs_row (by rfl) 23 (.tmp 4) (by rfl) w.heap.size 0 (by rfl) (geC g) _ (fun j w' _ h2 h => h.1) Tryz.underlying23 rfl (geC_info _) ?_); simp only [Act.put, List.setIfInBounds_toArray, List.set_cons_zero, List.set_cons_succ]) | (refine qs_now (v := ?_) (by rfl) ?_ ?_; rotate_left 1; (· (intro w' hS; go_simp; (try (simp only [↓IntWalk.iteOmega]; go_simp)); (try simp (disch := omega) only [IntWalk.i64_in]); try with_reducible rfl)); simp only [Act.put, List.setIfInBounds_toArray, List.set_cons_zero, List.set_cons_succ]) | (refine qs_run (v := ?_) (by rfl) ?_ ?_; rotate_left 1; (· (intro j w' hS; go_simp; (try (simp only [↓IntWalk.iteOmega]; go_simp)); (try simp (disch := omega) only [IntWalk.i64_in]); try with_reducible rfl)); simp only [Act.put, List.setIfInBounds_toArray, List.set_cons_zero, List.set_cons_succ]) | (refine qs_mid (v := ?_) (by rfl) ?_ ?_; rotate_left 1; (· (intro j w' hj1 hj2 hS; go_simp; (try (simp only [↓IntWalk.iteOmega]; go_simp)); (try simp (disch := omega) only [IntWalk.i64_in]); try with_reducible rfl)); simp only [Act.put, List.setIfInBounds_toArray, List.set_cons_zero, List.set_cons_succ]) | (refine qs_skip (by rfl) ?_; simp only [Act.put, List.setIfInBounds_toArray, List.set_cons_zero, List.set_cons_succ])))
    refine qs_nil ?_
    refine ⟨toHeld ?_, toHeld ?_⟩
    · go_wp2_with (go_at_call 80; refine (half_any HG.out HR.out ep HN.out.2.1).mono ?_; rewrite [← HH.out]; rintro e w4 ⟨rfl, hb⟩; have L4 := Lib.hid (below_chain (Below.refl _ w2).drew hb); clear hb)
      have K4 := Lib.hid (K2.out.below L4.out K2.out.lt)
      have H4 := Lib.hid (H2.out.below L4.out)
      refine ⟨⟨by have := K4.out.range; rwa [List.toList_toArray] at this, K4.out.cell rfl⟩, ?_⟩
      refine qs_act ?_
      go_wp2_with (refine mk_bytes rfl (.tmp 21) (.tmp 21) (by rfl) w.heap.size (512 * J) _ _ (by rfl) (by rfl) rfl rfl (by have := HB.out; omega) (by have := T2.out.size; have := L4.out.size; omega) ?_; intro w5 ho hg; have O5 := Lib.hid ho; have L5 := Lib.hid (bl_n (Below.refl w4.heap.size w4) hg); clear ho hg; simp only [Act.put, List.setIfInBounds_toArray, List.set_cons_zero, List.set_cons_succ])
      have K5 := Lib.hid (K4.out.below L5.out K4.out.lt)
      have H5 := Lib.hid (H4.out.below L5.out)
      refine ⟨⟨by have := K5.out.range; rwa [List.toList_toArray] at this, K5.out.cell rfl⟩, ?_⟩
      refine qs_act ?_
      go_wp2_with (go_at_call 33; refine (bl_zeros H5.out hf J (by have := HB.out; omega) HB.out.2.2 (BSrc.of_own O5.out (by have := HB.out; omega)) (Nat.le_refl _) (by have := HB.out; have := HN.out; omega)).mono ?_; rintro e w6 ⟨rfl, hC, hT⟩; have C6 := Lib.hid hC; have T6 := Lib.hid hT; clear hC hT)
      have K6 := Lib.hid (K5.out.cc H5.out T6.out (by decide))
      refine ⟨⟨by have := K6.out.range; rwa [List.toList_toArray] at this, K6.out.cell rfl⟩, ?_⟩
      (repeat (first | (refine qs_now (v := ?_) (by rfl) ?_ ?_; rotate_left 1; (· (intro w' hS; go_simp; (try (simp only [↓IntWalk.iteOmega]; go_simp)); (try simp (disch := omega) only [IntWalk.i64_in]); try with_reducible rfl)); simp only [Act.put, List.setIfInBounds_toArray, List.set_cons_zero, List.set_cons_succ]) | (refine qs_run (v := ?_) (by rfl) ?_ ?_; rotate_left 1; (· (intro j w' hS; go_simp; (try (simp only [↓IntWalk.iteOmega]; go_simp)); (try simp (disch := omega) only [IntWalk.i64_in]); try with_reducible rfl)); simp only [Act.put, List.setIfInBounds_toArray, List.set_cons_zero, List.set_cons_succ]) | (refine qs_mid (v := ?_) (by rfl) ?_ ?_; rotate_left 1; (· (intro j w' hj1 hj2 hS; go_simp; (try (simp only [↓IntWalk.iteOmega]; go_simp)); (try simp (disch := omega) only [IntWalk.i64_in]); try with_reducible rfl)); simp only [Act.put, List.setIfInBounds_toArray, List.set_cons_zero, List.set_cons_succ]) | (refine qs_skip (by rfl) ?_; simp only [Act.put, List.setIfInBounds_toArray, List.set_cons_zero, List.set_cons_succ])))
      refine qs_nil ?_
      exact ⟨rfl, _, rfl, C6.out, (T2.out.trans (Tch.below (L4.out.trans (L5.out.mono L4.out.size)))).trans T6.out⟩
    · go_wp2_with (refine mk_bytes rfl (.tmp 21) (.tmp 21) (by rfl) w.heap.size (512 * J) _ _ (by rfl) (by rfl) rfl rfl (by have := HB.out; omega) (by have := T2.out.size; exact this) ?_; intro w4 ho hg; have O4 := Lib.hid ho; have L4 := Lib.hid (bl_n (Below.refl _ w2).drew hg); clear ho hg)
      have K4 := Lib.hid (K2.out.below L4.out K2.out.lt)
      have H4 := Lib.hid (H2.out.below L4.out)
      refine ⟨⟨by have := K4.out.range; rwa [List.toList_toArray] at this, K4.out.cell rfl⟩, ?_⟩
      refine qs_act ?_
      go_wp2_with (go_at_call 80; refine (half_any HG.out HR.out ep HN.out.2.1).mono ?_; rewrite [← HH.out]; rintro e w5 ⟨rfl, hb⟩; have L5 := Lib.hid hb; clear hb)
      have K5 := Lib.hid (K4.out.below L5.out K4.out.lt)
      have H5 := Lib.hid (H4.out.below L5.out)
      have S5 := Lib.hid ((BSrc.of_own O4.out (by have := HB.out; omega)).below L5.out)
      refine ⟨⟨by have := K5.out.range; rwa [List.toList_toArray] at this, K5.out.cell rfl⟩, ?_⟩
      refine qs_act ?_
      go_wp2_with (go_at_call 33; refine (bl_zeros H5.out hf J (by have := HB.out; omega) HB.out.2.2 S5.out (Nat.le_refl _) (by have := HB.out; have := HN.out; omega)).mono ?_; rintro e w6 ⟨rfl, hC, hT⟩; have C6 := Lib.hid hC; have T6 := Lib.hid hT; clear hC hT)
      have K6 := Lib.hid (K5.out.cc H5.out T6.out (by decide))
      refine ⟨⟨by have := K6.out.range; rwa [List.toList_toArray] at this, K6.out.cell rfl⟩, ?_⟩
      (repeat (first | (refine qs_now (v := ?_) (by rfl) ?_ ?_; rotate_left 1; (· (intro w' hS; go_simp; (try (simp only [↓IntWalk.iteOmega]; go_simp)); (try simp (disch := omega) only [IntWalk.i64_in]); try with_reducible rfl)); simp only [Act.put, List.setIfInBounds_toArray, List.set_cons_zero, List.set_cons_succ]) | (refine qs_run (v := ?_) (by rfl) ?_ ?_; rotate_left 1; (· (intro j w' hS; go_simp; (try (simp only [↓IntWalk.iteOmega]; go_simp)); (try simp (disch := omega) only [IntWalk.i64_in]); try with_reducible rfl)); simp only [Act.put, List.setIfInBounds_toArray, List.set_cons_zero, List.set_cons_succ]) | (refine qs_mid (v := ?_) (by rfl) ?_ ?_; rotate_left 1; (· (intro j w' hj1 hj2 hS; go_simp; (try (simp only [↓IntWalk.iteOmega]; go_simp)); (try simp (disch := omega) only [IntWalk.i64_in]); try with_reducible rfl)); simp only [Act.put, List.setIfInBounds_toArray, List.set_cons_zero, List.set_cons_succ]) | (refine qs_skip (by rfl) ?_; simp only [Act.put, List.setIfInBounds_toArray, List.set_cons_zero, List.set_cons_succ])))
      refine qs_nil ?_
      exact ⟨rfl, _, rfl, C6.out, (T2.out.trans (Tch.below (L4.out.trans (L5.out.mono L4.out.size)))).trans T6.out⟩
  · rintro v w' ⟨hC, hT⟩
    simp only [Act.put, List.setIfInBounds_toArray, List.set_cons_zero, List.set_cons_succ]
    go_wp2_with fail
    go_ret
    exact ⟨rfl, hC, hT⟩
end
end Go.Proofs.YtpadifphnbdbpaaGreat
