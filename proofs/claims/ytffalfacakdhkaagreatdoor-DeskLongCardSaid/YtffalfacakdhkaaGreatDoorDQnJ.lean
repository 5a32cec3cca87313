/-
  what this claim needs of: QnJ, QnJ2, QnF, QnF2, QnF3 (written by cut.py).
-/
import Derived.Test.YtffalfacakdhkaaGreatDoorDQnB4
import Derived.Test.YtffalfacakdhkaaGreatDoorDQnL
import Derived.Test.YtffalfacakdhkaaGreatDoorDStW
import Derived.Test.YtffalfacakdhkaaGreatDoorDOnce
import Derived.ArgAppend
import Derived.Lib.AppendStr
namespace Go.Proofs.YtffalfacakdhkaaGreatDoor
open Go.RowKit Go.Maps
set_option linter.unusedVariables false
set_option linter.unusedSimpArgs false
theorem zsecs (j : Nat) : secsL (List.replicate j zSec) = List.replicate (512 * j) (Value.int .u8 0) := by
 have hz : secL zSec = List.replicate 512 (Value.int .u8 0) := by unfold secL zSec; rw [List.map_replicate]
 induction j with
 | zero => rfl
 | succ j ih =>
  rw [List.replicate_succ]
  show secL zSec ++ secsL (List.replicate j zSec) = _
  rw [ih, hz, List.replicate_append_replicate]
  congr 1
  omega
section
variable {w w' : World} {c kb d sb ob n : Nat} {L : Int → Sec} {N : Nat} {g : Geo}
set_option maxRecDepth 100000 in
set_option maxHeartbeats 1000000 in
theorem jr_may [gm : Inhabited GMk] (h : CcI w c kb d sb ob n L N) (hg : GeB g) (hr : RightP g) (hn : secsI g ≤ n) (ep : Nat) (he : ep ≤ 1099511627776) :
  Calls Tryz.prog 163 #[.pointer (some ⟨c, 0, none⟩), .agg (geC g).toArray, .int .i64 (ep : Int)] w fun e w' => e = .returned (.int .i64 0) ∧ Below w.heap.size w w' := by
 have H := yH h
 have HG := yH hg
 have hdt : decide (RightP g) = true := decide_eq_true hr
 have hsg : secsG g = secsI g := by unfold secsG; rw [if_pos hr]
 have HS := yH hsg
 have hq1 : ¬ (n : Int) = 0 := by have := h.rng; omega
 have hq1b : ((n : Int) == 0) = false := beq_eq_false_iff_ne.2 hq1
 have hq2 : ¬ (ep : Int) < 0 := by omega
 have hq3 : ¬ (1099511627776 : Int) < (ep : Int) := by omega
 have hq4 : ¬ (n : Int) < secsI g := by omega
 have hq5 : decide ((ep : Int) < 0) = false := decide_eq_false hq2
 have hq6 : decide ((1099511627776 : Int) < (ep : Int)) = false := decide_eq_false hq3
 clear h hg hr hn he hsg
 go_enter Tryz.func163, Tryz.ntmps163
 go_upto_region 3 with (first
  | (refine wpl_box rfl 66 (.tmp 1) rfl _ rfl ?_; intro w1 hk hg hz; have K := yH hk; have L1 := yH (bl_n (Below.refl _ _) hg); have H1 := yH (H.out.below L1.out); clear hk hg hz)
  | (go_at_call 137; refine (ci_sectors H1.out).mono ?_; rintro e w2 ⟨rfl, rfl⟩))
 refine wp_region_qs (fun _ w' => w'.rangeAt w.heap.size 0 (geC g)) [(0, some 2), (1, none), (2, some 3), (3, some 3), (4, some 3), (5, some 3), (6, some 3), (7, some 3), (8, some 3), (9, some 3), (10, some 3), (11, some 1), (12, some 2), (14, some 2), (13, none), (15, none), (16, some 3), (17, some 3), (18, some 3)] (by kernel_rfl) (by kernel_rfl) (by kernel_rfl) (by kernel_rfl) (by kernel_rfl) (fun _ _ _ _ _ h => h) (by have := K.out.drew.range; rwa [List.toList_toArray] at this) ?_
 simp only [yD, yE, yF, yG]
 (repeat (first | ((refine qs_row (by rfl) 66 (.tmp 4) (by rfl) w.heap.size 0 (by rfl) (geC g) _ (fun j w' _ h2 h => h) Tryz.underlying66 rfl (geC_info _) ?_); simp only [Act.put, yA, yB, yC]) | (refine qs_mid (v := ?_) (by rfl) ?_ ?_; rotate_left 1; (· (intro j w' hj1 hj2 hS; go_simp; (try (simp only [↓IntWalk.iteOmega]; go_simp)); (try simp (disch := omega) only [IntWalk.i64_in]); try with_reducible rfl)); simp only [Act.put, yA, yB, yC]) | (refine qs_skip (by rfl) ?_; simp only [Act.put, yA, yB, yC])))
 refine qs_act ?_
 go_wp2_with (go_at_call 74; refine (right_any HG.out).mono ?_; rewrite [hdt]; rintro e w4 ⟨rfl, hb⟩; have L4 := yH (below_chain L1.out.drew hb); have K4 := yH (K.out.drew.below hb K.out.lt); have H4 := yH (H.out.below L4.out); clear hb)
 refine ⟨by have := K4.out.range; rwa [List.toList_toArray] at this, ?_⟩
 (repeat (first | ((refine qs_row (by rfl) 66 (.tmp 4) (by rfl) w.heap.size 0 (by rfl) (geC g) _ (fun j w' _ h2 h => h) Tryz.underlying66 rfl (geC_info _) ?_); simp only [Act.put, yA, yB, yC]) | (refine qs_mid (v := ?_) (by rfl) ?_ ?_; rotate_left 1; (· (intro j w' hj1 hj2 hS; go_simp; (try (simp only [↓IntWalk.iteOmega]; go_simp)); (try simp (disch := omega) only [IntWalk.i64_in]); try with_reducible rfl)); simp only [Act.put, yA, yB, yC]) | (refine qs_skip (by rfl) ?_; simp only [Act.put, yA, yB, yC])))
 refine qs_act ?_
 go_wp2_with (go_at_call 137; refine (ci_sectors H4.out).mono ?_; rintro e w5 ⟨rfl, rfl⟩)
 refine ⟨by have := K4.out.range; rwa [List.toList_toArray] at this, ?_⟩
 (repeat (first | ((refine qs_row (by rfl) 66 (.tmp 4) (by rfl) w.heap.size 0 (by rfl) (geC g) _ (fun j w' _ h2 h => h) Tryz.underlying66 rfl (geC_info _) ?_); simp only [Act.put, yA, yB, yC]) | (refine qs_mid (v := ?_) (by rfl) ?_ ?_; rotate_left 1; (· (intro j w' hj1 hj2 hS; go_simp; (try (simp only [↓IntWalk.iteOmega]; go_simp)); (try simp (disch := omega) only [IntWalk.i64_in]); try with_reducible rfl)); simp only [Act.put, yA, yB, yC]) | (refine qs_skip (by rfl) ?_; simp only [Act.put, yA, yB, yC])))
 refine qs_act ?_
 go_wp2_with (go_at_call 75; refine (secs_any HG.out).mono ?_; rewrite [HS.out]; rintro e w6 ⟨rfl, hb⟩; have L6 := yH (below_chain L4.out hb); have K6 := yH (K4.out.below hb K4.out.lt); clear hb)
 refine ⟨by have := K6.out.range; rwa [List.toList_toArray] at this, ?_⟩
 (repeat (first | (refine qs_mid (v := ?_) (by rfl) ?_ ?_; rotate_left 1; (· (intro j w' hj1 hj2 hS; go_simp; (try (simp only [↓IntWalk.iteOmega]; go_simp)); (try simp (disch := omega) only [IntWalk.i64_in]); try with_reducible rfl)); simp only [Act.put, yA, yB, yC]) | (refine qs_skip (by rfl) ?_; simp only [Act.put, yA, yB, yC])))
 refine qs_nil ?_
 go_wp2_with fail
 go_ret
 exact ⟨rfl, L6.out⟩
end
end Go.Proofs.YtffalfacakdhkaaGreatDoor
namespace Go.Proofs.YtffalfacakdhkaaGreatDoor
open Go.RowKit Go.Maps
set_option linter.unusedVariables false
set_option linter.unusedSimpArgs false
section
variable {w w' : World} {c kb d sb ob n : Nat} {L : Int → Sec} {N : Nat} {g : Geo}
theorem bl_zeros [gm : Inhabited GMk] (h : CcI w c kb d sb ob n L N) (hf J : Nat) (hJ : 1 ≤ J ∧ J ≤ 1024) (hn : hf + J ≤ n) {A : Option Addr} {cap : Nat} (hs : BSrc w A (512 * J) (List.replicate (512 * J) (Value.int .u8 0))) (hc : 512 * J ≤ cap) (hN : N + J ≤ 900000) :
  Calls Tryz.prog 77 #[.pointer (some ⟨c, 0, none⟩), .int .i64 (hf : Int), .slice A (512 * J) cap] w (BlPost w c kb d sb ob n (putL L hf (List.replicate J zSec)) (N + J)) := by
 have hl : (List.replicate J zSec).length = J := List.length_replicate
 have := bl_write h hf (List.replicate J zSec) (by rw [hl]; exact hJ) (by rw [hl]; exact hn) (A := A) (cap := cap) (by rw [hl, zsecs]; exact hs) (by rw [hl]; exact hc) (by rw [hl]; exact hN)
 rw [hl] at this
 exact this
theorem Blk.cc [gm : Inhabited GMk] {W W' : World} {b : Nat} {t : TypeId} {cs : Array Value} (hb : Blk W b t cs) (h : CcI W c kb d sb ob n L N) (hT : Tch [c, kb, sb, ob] W W') (ht : t ≠ 206) : Blk W' b t cs := hb.tch hT (h.noBlk hb ht)
def ClrR [gm : Inhabited GMk] (w : World) (c kb d sb ob n : Nat) (L : Int → Sec) (N : Nat) (v : Value) (w' : World) : Prop := CcI w' c kb d sb ob n L N ∧ Tch [c, kb, sb, ob] w w'
set_option maxRecDepth 100000 in
set_option maxHeartbeats 1000000 in
theorem jr_clear [gm : Inhabited GMk] (h : CcI w c kb d sb ob n L N) (hg : GeB g) (hr : RightP g) (hn : secsI g ≤ n) (ep : Nat) (he : ep ≤ 1099511627776) (hN : N ≤ 800000) (J hf : Nat) (hJ : (J : Int) = g.jou) (hhf : (hf : Int) = 2 + ((ep % 2 : Nat) : Int) * g.jou) :
  Calls Tryz.prog 282 #[.pointer (some ⟨c, 0, none⟩), .agg (geC g).toArray, .int .i64 (ep : Int)] w (BlPost w c kb d sb ob n (putL L hf (List.replicate J zSec)) (N + J)) := by
 have H := yH h
 have HG := yH hg
 have HR := yH hr
 have HN := yH (And.intro hn (And.intro he hN))
 have HJ := yH hJ
 have HH := yH hhf
 have HM := yH (jr_may h hg hr hn ep he)
 have hj := hr.1.2.2.2.2.2
 have hq1 : IntKind.i64.wrap (512 * g.jou) = ((512 * J : Nat) : Int) := by rw [IntWalk.i64_in _ (by omega)]; omega
 have hq2 : g.jou = (J : Int) := hJ.symm
 have HQ1 := yH hq1
 have HB := yH (show 8 ≤ J ∧ J ≤ 64 ∧ hf + J ≤ n by
  have h1 := hr.1.pages
  have h2 := hr.1.prod
  unfold secsI at hn
  have h3 : ((ep % 2 : Nat) : Int) = 0 ∨ ((ep % 2 : Nat) : Int) = 1 := by omega
  rcases h3 with h3 | h3 <;> rw [h3] at hhf <;> omega)
 clear h hg hr hn he hN hJ hhf hq1 hq2 hj
 go_enter Tryz.func282, Tryz.ntmps282
 go_upto_region 4 with (first
  | (go_at_call 163; refine (jr_may H1.out HG.out HR.out HN.out.1 ep HN.out.2.1).mono ?_; rintro e w2 ⟨rfl, hb⟩; have L2 := yH (below_chain L1.out hb); have K2 := yH (K.out.below hb K.out.lt); have RG2 := yH (show w2.rangeAt w.heap.size 0 (geC g) by have := K2.out.range; rwa [List.toList_toArray] at this); clear hb)
  | (refine wpList_load_mid rfl 66 (.tmp 4) (by rfl) w.heap.size 0 (by rfl) (geC g) _ RG.out Tryz.underlying66 rfl (geC_info g) ?_; simp only [Act.put, yA, yB, yC])
  | (refine wpl_box rfl 66 (.tmp 1) rfl _ rfl ?_; intro w1 hk hg hz; have K := yH hk; have L1 := yH (bl_n (Below.refl _ _) hg); have H1 := yH (H.out.below L1.out); have RG := yH (show w1.rangeAt w.heap.size 0 (geC g) by have := K.out.range; rwa [List.toList_toArray] at this); clear hk hg hz))
 have H2 := yH (H.out.below L2.out)
 have T2 := yH (show Tch [c, kb, sb, ob] w w2 from Tch.below L2.out)
 clear K L1 H1 RG RG2 HM
 have hq1 := HQ1.out
 refine wp_region_two (fun _ w' => w'.rangeAt w.heap.size 0 (geC g) ∧ w'.cell? ⟨w.heap.size, 4, none⟩ = some (.int .i64 g.jou)) [3, 7, 8] [(0, 2), (1, 2), (2, 2), (4, 3), (5, 3), (6, 2)] 3 7 [(7, none), (8, none), (9, some 3)] [(3, none), (8, none), (9, some 3)]
  (ClrR w c kb d sb ob n (putL L hf (List.replicate J zSec)) (N + J))
  (fun a v => (((((((((a.put (some 15) (.pointer (some ⟨c, 0, none⟩))).put (some 16) (.agg (geC g).toArray)).put (some 17) (.int .i64 (ep : Int))).put (some 19) (.pointer (some ⟨w.heap.size, 4, none⟩))).put (some 20) (.int .i64 g.jou)).put (some 21) (.int .i64 ((512 * J : Nat) : Int))).put (some 18) (.int .i64 (hf : Int))).put (some 22) v).put (some 23) (.int .i64 0)).put (some 6) (.int .i64 0))
  _ _ (by kernel_rfl) rfl rfl (by kernel_rfl) (by kernel_rfl) (by kernel_rfl) (by kernel_rfl) (by kernel_rfl) (by kernel_rfl) (by kernel_rfl) (by kernel_rfl) rfl rfl ⟨by have := K2.out.drew.range; rwa [List.toList_toArray] at this, K2.out.drew.cell rfl⟩ ?_ ?_
 ·simp only [yD, yE, yF, yG]
  (repeat (first | ((refine qs_row (by rfl) 66 (.tmp 4) (by rfl) w.heap.size 0 (by rfl) (geC g) _ (fun j w' _ h2 h => h.1) Tryz.underlying66 rfl (geC_info _) ?_); simp only [Act.put, yA, yB, yC]) | (refine qs_mid (v := ?_) (by rfl) ?_ ?_; rotate_left 1; (· (intro j w' hj1 hj2 hS; go_simp; (try (simp only [↓IntWalk.iteOmega]; go_simp)); (try simp (disch := omega) only [IntWalk.i64_in]); try with_reducible rfl)); simp only [Act.put, yA, yB, yC]) | (refine qs_skip (by rfl) ?_; simp only [Act.put, yA, yB, yC])))
  refine qs_nil ?_
  refine ⟨toHeld ?_, toHeld ?_⟩
  ·go_wp2_with (go_at_call 164; refine (half_any HG.out HR.out ep HN.out.2.1).mono ?_; rewrite [← HH.out]; rintro e w4 ⟨rfl, hb⟩; have L4 := yH (below_chain (Below.refl _ w2).drew hb); clear hb)
   have K4 := yH (K2.out.below L4.out K2.out.lt)
   have H4 := yH (H2.out.below L4.out)
   refine ⟨⟨by have := K4.out.range; rwa [List.toList_toArray] at this, K4.out.cell rfl⟩, ?_⟩
   refine qs_act ?_
   go_wp2_with (refine mk_bytes rfl (.tmp 21) (.tmp 21) (by rfl) w.heap.size (512 * J) _ _ (by rfl) (by rfl) rfl rfl (by have := HB.out; omega) (by have := T2.out.size; have := L4.out.size; omega) ?_; intro w5 ho hg; have O5 := yH ho; have L5 := yH (bl_n (Below.refl w4.heap.size w4) hg); clear ho hg; simp only [Act.put, yA, yB, yC])
   have K5 := yH (K4.out.below L5.out K4.out.lt)
   have H5 := yH (H4.out.below L5.out)
   refine ⟨⟨by have := K5.out.range; rwa [List.toList_toArray] at this, K5.out.cell rfl⟩, ?_⟩
   refine qs_act ?_
   go_wp2_with (go_at_call 77; refine (bl_zeros H5.out hf J (by have := HB.out; omega) HB.out.2.2 (BSrc.of_own O5.out (by have := HB.out; omega)) (Nat.le_refl _) (by have := HB.out; have := HN.out; omega)).mono ?_; rintro e w6 ⟨rfl, hC, hT⟩; have C6 := yH hC; have T6 := yH hT; clear hC hT)
   have K6 := yH (K5.out.cc H5.out T6.out (by decide))
   refine ⟨⟨by have := K6.out.range; rwa [List.toList_toArray] at this, K6.out.cell rfl⟩, ?_⟩
   (repeat (first | (refine qs_mid (v := ?_) (by rfl) ?_ ?_; rotate_left 1; (· (intro j w' hj1 hj2 hS; go_simp; (try (simp only [↓IntWalk.iteOmega]; go_simp)); (try simp (disch := omega) only [IntWalk.i64_in]); try with_reducible rfl)); simp only [Act.put, yA, yB, yC]) | (refine qs_skip (by rfl) ?_; simp only [Act.put, yA, yB, yC])))
   refine qs_nil ?_
   exact ⟨rfl, _, rfl, C6.out, (T2.out.trans (Tch.below (L4.out.trans (L5.out.mono L4.out.size)))).trans T6.out⟩
  ·go_wp2_with (refine mk_bytes rfl (.tmp 21) (.tmp 21) (by rfl) w.heap.size (512 * J) _ _ (by rfl) (by rfl) rfl rfl (by have := HB.out; omega) (by have := T2.out.size; exact this) ?_; intro w4 ho hg; have O4 := yH ho; have L4 := yH (bl_n (Below.refl _ w2).drew hg); clear ho hg)
   have K4 := yH (K2.out.below L4.out K2.out.lt)
   have H4 := yH (H2.out.below L4.out)
   refine ⟨⟨by have := K4.out.range; rwa [List.toList_toArray] at this, K4.out.cell rfl⟩, ?_⟩
   refine qs_act ?_
   go_wp2_with (go_at_call 164; refine (half_any HG.out HR.out ep HN.out.2.1).mono ?_; rewrite [← HH.out]; rintro e w5 ⟨rfl, hb⟩; have L5 := yH hb; clear hb)
   have K5 := yH (K4.out.below L5.out K4.out.lt)
   have H5 := yH (H4.out.below L5.out)
   have S5 := yH ((BSrc.of_own O4.out (by have := HB.out; omega)).below L5.out)
   refine ⟨⟨by have := K5.out.range; rwa [List.toList_toArray] at this, K5.out.cell rfl⟩, ?_⟩
   refine qs_act ?_
   go_wp2_with (go_at_call 77; refine (bl_zeros H5.out hf J (by have := HB.out; omega) HB.out.2.2 S5.out (Nat.le_refl _) (by have := HB.out; have := HN.out; omega)).mono ?_; rintro e w6 ⟨rfl, hC, hT⟩; have C6 := yH hC; have T6 := yH hT; clear hC hT)
   have K6 := yH (K5.out.cc H5.out T6.out (by decide))
   refine ⟨⟨by have := K6.out.range; rwa [List.toList_toArray] at this, K6.out.cell rfl⟩, ?_⟩
   (repeat (first | (refine qs_mid (v := ?_) (by rfl) ?_ ?_; rotate_left 1; (· (intro j w' hj1 hj2 hS; go_simp; (try (simp only [↓IntWalk.iteOmega]; go_simp)); (try simp (disch := omega) only [IntWalk.i64_in]); try with_reducible rfl)); simp only [Act.put, yA, yB, yC]) | (refine qs_skip (by rfl) ?_; simp only [Act.put, yA, yB, yC])))
   refine qs_nil ?_
   exact ⟨rfl, _, rfl, C6.out, (T2.out.trans (Tch.below (L4.out.trans (L5.out.mono L4.out.size)))).trans T6.out⟩
 ·rintro v w' ⟨hC, hT⟩
  simp only [Act.put, yA, yB, yC]
  go_wp2_with fail
  go_ret
  exact ⟨rfl, hC, hT⟩
end
end Go.Proofs.YtffalfacakdhkaaGreatDoor
namespace Go.Proofs.YtffalfacakdhkaaGreatDoor
open Go.RowKit Go.Maps
set_option linter.unusedVariables false
set_option linter.unusedSimpArgs false

def beL (n k : Nat) : List Int := (List.range k).map fun j => ((n / 2 ^ (8 * (k - 1 - j)) % 256 : Nat) : Int)
def saidL (b : List Int) : Nat := b.foldl (fun n z => 256 * n + z.toNat) 0
theorem beL_len (n k : Nat) : (beL n k).length = k := by simp [beL]
theorem beL_bytes (n k : Nat) : ∀ z ∈ beL n k, 0 ≤ z ∧ z < 256 := by
 intro z hz
 obtain ⟨j, _, rfl⟩ := List.mem_map.1 hz
 omega
theorem saidL_snoc (b : List Int) (z : Int) : saidL (b ++ [z]) = 256 * saidL b + z.toNat := by simp [saidL]
theorem beL_take (n k j : Nat) (h : j < k) : (beL n k).take (k - j) = (beL n k).take (k - (j + 1)) ++ [((n / 2 ^ (8 * j) % 256 : Nat) : Int)] := by
 obtain ⟨i, hi⟩ : ∃ i, i = k - (j + 1) := ⟨_, rfl⟩
 rw [← hi, show k - j = i + 1 by omega, show j = k - 1 - i by omega, List.take_add_one]
 congr 1
 unfold beL
 rw [List.getElem?_map, List.getElem?_range (by omega)]
 rfl
/-- Bytes as values. -/
def bV (b : List Int) : List Value := b.map (Value.int .u8)
theorem bV_len (b : List Int) : (bV b).length = b.length := by simp [bV]
theorem bV_app (a b : List Int) : bV (a ++ b) = bV a ++ bV b := by simp [bV]
theorem bV_one (b : List Int) : ∀ v ∈ bV b, v.oneCell' = true := u8_one
section
variable {w : World} {ops : Array Oper} {rest : List Oper} {o : Oper} {a : Act} {Q : Exit → Act → World → Prop}
/-- append(b[:n], ..) where there is room: in place, what lies behind stays. -/
theorem wpl_app_spare (hgd : o.guard = none) (s x : Operand) (hop : o.op = .call { callee := .builtin .append, args := #[s, x], argTypes := #[25, 25] }) (g n cap : Nat) (cs : List Value) (hs : a.eval s = .slice (some ⟨g, 0, none⟩) n cap) (hb : Blk w g 5 cs.toArray)
  (u : Value) (m : Nat) (ys : List Value) (hx : a.eval x = u) (hsrc : Src w 1 u m ys) (hm : 0 < m) (h1 : ∀ v ∈ ys, v.oneCell' = true) (hroom : n + m ≤ cap) (hfit : n + m ≤ cs.length)
  (h : ∀ w', Blk w' g 5 (cs.take n ++ ys ++ cs.drop (n + m)).toArray → w.grownBy w' (some g) → w'.heap.size = w.heap.size → wpList Tryz.prog ops Q rest (a.put o.dst (.slice (some ⟨g, 0, none⟩) (n + m) cap)) w') : wpList Tryz.prog ops Q (o :: rest) a w := by
 obtain ⟨i0, hi', hz0, hz1, hz2⟩ := info_parts infoByte
 obtain ⟨A, c, rfl, hl, hc⟩ := hsrc
 obtain ⟨b, off, rfl, hlt, hcell⟩ := hc hm
 rw [Nat.mul_one] at hl
 have hr := run_append_room_cells (P := Tryz.prog) w 25 o.type 5 i0 Tryz.underlying25 hi' g 0 n cap ⟨b, off, none⟩ m c ys (by rw [hz1]; omega) (fun j v hv => by rw [Addr.add_mid]; exact hcell j v hv) h1 hroom
  (fun j hj => by rw [hz1, hb.cellq]; simp; omega) (fun j hj => hb.free _)
 rw [hz1, Nat.zero_add, Nat.mul_one] at hr
 refine wpList_plain hgd fun K hK => ?_
 unfold Oper.wp execOp
 simp only [hop, resolve, invoke, builtin, Sem.run_bind, Sem.run_pure, Result.andThen_ok, List.map_toArray, List.map_cons, List.map_nil, hs, hx, hr]
 have h2 := Blk.puts ys w cs.toArray n hb
 rw [putAt_list _ _ _ (by simp; omega), List.toList_toArray, hl] at h2
 exact hK _ _ (h _ h2 (grown_setCells _ w n).1 (grown_setCells _ w n).2)
end
theorem shift_byteL (x k : Nat) : (x : Int) / 2 ^ (8 * k) % 256 = ((x / 2 ^ (8 * k) % 256 : Nat) : Int) := by simp
end Go.Proofs.YtffalfacakdhkaaGreatDoor
namespace Go.Proofs.YtffalfacakdhkaaGreatDoor
open Go.RowKit Go.Maps
set_option linter.unusedVariables false
set_option linter.unusedSimpArgs false
section
variable {w : World}
def NumL (w : World) (g cap : Nat) (cs : List Value) (n x k : Nat) (m : Nat) (kv v : Value) (wr : World) : Prop :=
 ∃ j : Nat, kv = .int .i64 ((j : Int) - 1) ∧ j ≤ k ∧ j ≤ m ∧ m ≤ j ∧ v = .slice (some ⟨g, 0, none⟩) (n + (k - j)) cap ∧ Blk wr g 5 (cs.take n ++ bV ((beL x k).take (k - j)) ++ cs.drop (n + (k - j))).toArray ∧ Tch [g] w wr
def NumPost (w : World) (g cap : Nat) (cs : List Value) (n x k : Nat) (e : Ending) (w' : World) : Prop :=
 e = .returned (.slice (some ⟨g, 0, none⟩) (n + k) cap) ∧ Blk w' g 5 (cs.take n ++ bV (beL x k) ++ cs.drop (n + k)).toArray ∧ Tch [g] w w'
theorem src_oneQ {w : World} {b : Nat} {t : TypeId} {v : Value} (h : Blk w b t #[v]) (c : Nat) : Src w 1 (.slice (some ⟨b, 0, none⟩) 1 c) 1 [v] := by
 refine ⟨_, c, rfl, rfl, fun _ => ⟨b, 0, rfl, h.lt, fun j y hy => ?_⟩⟩
 rw [Nat.zero_add]
 exact h.cell (by simpa using hy)
set_option maxRecDepth 100000 in
set_option maxHeartbeats 1600000 in
theorem fr_number (g cap : Nat) (cs : List Value) (n x k : Nat) (h : Blk w g 5 cs.toArray) (hcs : cs.length = cap) (hn : n + k ≤ cap) (hk : 1 ≤ k ∧ k ≤ 8) (hx : x ≤ 4611686018427387904) (hc : cap ≤ 1000000) :
  Calls Tryz.prog 333 #[.slice (some ⟨g, 0, none⟩) n cap, .int .u64 (x : Int), .int .i64 (k : Int)] w (NumPost w g cap cs n x k) := by
 have HB := yH h
 have HC := yH hcs
 clear h hcs
 go_enter Tryz.func333, Tryz.ntmps333
 go_wp2
 go_loopg [7, 0] k (fun m kv v wr => NumL w g cap cs n x k m kv v wr)
 case atStart =>
  refine ⟨k, rfl, by omega, by omega, by omega, by rw [Nat.sub_self]; rfl, ?_, Tch.refl _ _⟩
  have e : cs.take n ++ bV ((beL x k).take (k - k)) ++ cs.drop (n + (k - k)) = cs := by
   rw [Nat.sub_self, List.take_zero, Nat.add_zero]
   show cs.take n ++ [] ++ cs.drop n = cs
   rw [List.append_nil, List.take_append_drop]
  rw [e]
  exact HB.out
 case round =>
  obtain ⟨j, rfl, h1, h2, h3, rfl, hS, hT⟩ := hrel
  have HS := yH hS
  have HT := yH hT
  clear hS hT
  rcases Nat.eq_zero_or_pos j with rfl | hj0
  ·go_wp2
   go_ret
   have := HS.out
   rw [Nat.sub_zero, show (beL x k).take k = beL x k from List.take_of_length_le (by rw [beL_len]; exact Nat.le_refl _)] at this
   exact ⟨rfl, this, HT.out⟩
  ·obtain ⟨i, rfl⟩ : ∃ i, j = i + 1 := ⟨j - 1, by omega⟩
   have eK : (((i + 1 : Nat) : Int) - 1) = (i : Int) := by omega
   rw [eK]
   clear eK
   obtain ⟨q, hq⟩ : ∃ q, q = n + (k - (i + 1)) := ⟨_, rfl⟩
   rw [← hq] at HS
   rw [← hq]
   have HQ := yH (show q = n + (k - (i + 1)) ∧ q + 1 ≤ cap from ⟨hq, by omega⟩)
   obtain ⟨D, hD⟩ : ∃ D, D = cs.take n ++ bV ((beL x k).take (k - (i + 1))) ++ cs.drop q := ⟨_, rfl⟩
   rw [← hD] at HS
   have HD := yH hD
   have HDl := yH (show D.length = cap by rw [hD, List.length_append, List.length_append, bV_len, List.length_take, List.length_take, List.length_drop, beL_len, HC.out]; omega)
   clear hq hD
   go_wp2_with (refine wpl_app_spare rfl (.tmp 14) (.tmp 20) (by rfl) g q cap D (by rfl) (HS.out.alloc _) _ 1 _ (by rfl) (src_oneQ (Blk.made _ _ _) 1) (by omega) (by intro v hv; simp at hv; subst hv; rfl) HQ.out.2 (by rw [HDl.out]; exact HQ.out.2) ?_; intro w2 hb hg hz; have B2 := yH hb; have T2 := yH (show Tch [g] w w2 from (HT.out.trans (Tch.below ((Below.refl _ wr).alloc (Nat.le_refl _) _))).trans (tch_g hg)); clear hb hg hz; simp only [Act.put, yA, yB, yC])
   go_roundg (gk - 1)
   case measure => omega
   case rel =>
    refine ⟨i, rfl, by omega, by omega, by omega, ?_, ?_, T2.out⟩
    ·congr 1
     have := HQ.out.1
     omega
    ·have := B2.out
     rw [shift_byteL] at this
     have hP : (cs.take n ++ bV ((beL x k).take (k - (i + 1)))).length = q := by
      rw [List.length_append, bV_len, List.length_take, List.length_take, beL_len, HC.out]
      have := HQ.out
      omega
     have e1 : D.take q = cs.take n ++ bV ((beL x k).take (k - (i + 1))) := by rw [HD.out, List.take_append_of_le_length (by rw [hP]; exact Nat.le_refl _), List.take_of_length_le (by rw [hP]; exact Nat.le_refl _)]
     have e2 : D.drop (q + 1) = cs.drop (q + 1) := by
      rw [HD.out, List.drop_append, hP, List.drop_eq_nil_of_le (by rw [hP]; omega), List.nil_append, List.drop_drop]
      congr 1
      omega
     rw [e1, e2] at this
     rw [beL_take _ _ _ (by omega), bV_app, show n + (k - i) = q + 1 by have := HQ.out; omega]
     simpa [bV] using this
end
end Go.Proofs.YtffalfacakdhkaaGreatDoor
namespace Go.Proofs.YtffalfacakdhkaaGreatDoor
open Go.RowKit Go.Maps
set_option linter.unusedVariables false
set_option linter.unusedSimpArgs false
/-- A row of 512 of which the first are P, the others noughts. -/
def frZ (P : List Int) : List Value := bV P ++ List.replicate (512 - P.length) (Value.int .u8 0)
theorem frZ_len (P : List Int) (h : P.length ≤ 512) : (frZ P).length = 512 := by
 unfold frZ
 rw [List.length_append, bV_len, List.length_replicate]
 omega
theorem frZ_app (P Q : List Int) (h : P.length + Q.length ≤ 512) : (frZ P).take P.length ++ bV Q ++ (frZ P).drop (P.length + Q.length) = frZ (P ++ Q) := by
 unfold frZ
 rw [List.take_append_of_le_length (by rw [bV_len]; exact Nat.le_refl _), List.take_of_length_le (by rw [bV_len]; exact Nat.le_refl _), List.drop_append, bV_len, List.drop_eq_nil_of_le (by rw [bV_len]; omega), List.nil_append, List.drop_replicate, bV_app, List.length_append]
 congr 2
 omega
def bodyL (kind ep seq : Nat) (ds : List Int) : List Int := [112, 101, 97, 116] ++ [(kind : Int), 0, 0, 0] ++ beL ep 8 ++ beL seq 8 ++ beL ds.length 4 ++ ds
theorem bodyL_len (kind ep seq : Nat) (ds : List Int) : (bodyL kind ep seq ds).length = 28 + ds.length := by simp [bodyL, beL_len]; omega
theorem bodyL_bytes {kind ep seq : Nat} {ds : List Int} (hk : kind < 256) (hd : ∀ z ∈ ds, 0 ≤ z ∧ z < 256) : ∀ z ∈ bodyL kind ep seq ds, 0 ≤ z ∧ z < 256 := by
 intro z hz
 unfold bodyL at hz
 simp only [List.mem_append] at hz
 rcases hz with ((((hz | hz) | hz) | hz) | hz) | hz
 ·simp at hz; omega
 ·simp at hz; omega
 ·exact beL_bytes _ _ z hz
 ·exact beL_bytes _ _ z hz
 ·exact beL_bytes _ _ z hz
 ·exact hd z hz
def sumL (P : List Int) : List Int := P ++ beL (crcB P).toNat 4
def frL (kind ep seq : Nat) (ds : List Int) : List Int := sumL (bodyL kind ep seq ds) ++ List.replicate (512 - (32 + ds.length)) 0
theorem frL_val (kind ep seq : Nat) (ds : List Int) : bV (frL kind ep seq ds) = frZ (sumL (bodyL kind ep seq ds)) := by
 unfold frL frZ
 have h : (sumL (bodyL kind ep seq ds)).length = 32 + ds.length := by unfold sumL; rw [List.length_append, bodyL_len, beL_len]; omega
 rw [bV_app, h]
 congr 1
 simp [bV]
section
variable {w : World} {ops : Array Oper} {rest : List Oper} {o : Oper} {a : Act} {Q : Exit → Act → World → Prop}
theorem wpl_app_peat (hgd : o.guard = none) (s x : Operand) (hop : o.op = .call { callee := .builtin .append, args := #[s, x], argTypes := #[25, 9] }) (g n cap : Nat) (cs : List Value) (hs : a.eval s = .slice (some ⟨g, 0, none⟩) n cap) (hb : Blk w g 5 cs.toArray)
  (st : ByteArray) (hx : a.eval x = .string st) (hroom : n + st.size ≤ cap) (hfit : n + st.size ≤ cs.length)
  (h : ∀ w', Blk w' g 5 (cs.take n ++ Lib.strCells st ++ cs.drop (n + st.size)).toArray → w.grownBy w' (some g) → w'.heap.size = w.heap.size → wpList Tryz.prog ops Q rest (a.put o.dst (.slice (some ⟨g, 0, none⟩) (n + st.size) cap)) w') : wpList Tryz.prog ops Q (o :: rest) a w := by
 obtain ⟨i0, hi', hz0, hz1, hz2⟩ := info_parts infoByte
 have hr := Lib.run_append_room_string (P := Tryz.prog) w 25 9 o.type 5 i0 Tryz.underlying25 Tryz.underlying9 hi' hz1 g n cap cs.toArray hb st hroom (by simpa using hfit)
 refine wpList_plain hgd fun K hK => ?_
 unfold Oper.wp execOp
 simp only [hop, resolve, invoke, builtin, Sem.run_bind, Sem.run_pure, Result.andThen_ok, List.map_toArray, List.map_cons, List.map_nil, hs, hx, hr]
 refine hK _ _ (h _ (setRow_heap w g _ _ _ _ hb) ⟨rfl, rfl, rfl, by simp [World.setRow], fun k _ hk => setRow_other w g k _ (fun e => hk (by simp [e]))⟩ (by simp [World.setRow]))
/-- Nothing is appended. -/
theorem wpl_app_none (hgd : o.guard = none) (s x : Operand) (hop : o.op = .call { callee := .builtin .append, args := #[s, x], argTypes := #[25, 25] }) (g n cap : Nat) (hs : a.eval s = .slice (some ⟨g, 0, none⟩) n cap) (hn : n ≤ cap)
  (A : Option Addr) (c : Nat) (hx : a.eval x = .slice A 0 c)
  (h : wpList Tryz.prog ops Q rest (a.put o.dst (.slice (some ⟨g, 0, none⟩) n cap)) w) : wpList Tryz.prog ops Q (o :: rest) a w := by
 obtain ⟨i0, hi', hz0, hz1, hz2⟩ := info_parts infoByte
 have hrun : ∀ ty, (Builtin.append_ #[25, 25] ty #[.slice (some ⟨g, 0, none⟩) n cap, .slice A 0 c]).run Tryz.prog w = .ok (.slice (some ⟨g, 0, none⟩) n cap) w := by
  intro ty
  cases A <;> simp [Builtin.append_, run_underlying Tryz.underlying25, sizeOf, typeInfo, hi', Builtin.lenOf, Builtin.firstCells, hn, storeCells, loadCells, loadCellsFrom]
 refine wpList_plain hgd fun K hK => ?_
 unfold Oper.wp execOp
 simp only [hop, resolve, invoke, builtin, Sem.run_bind, Sem.run_pure, Result.andThen_ok, List.map_toArray, List.map_cons, List.map_nil, hs, hx, hrun]
 exact hK _ _ h
end
section
variable {w : World}
theorem fr_may (x : Nat) (hx : x ≤ 1099511627776) (w : World) : Calls Tryz.prog 332 #[.int .i64 (x : Int)] w fun e w' => e = .returned (.bool true) ∧ w = w' := by
 have e1 : (0 : Int) ≤ (x : Int) := by omega
 have e2 : (x : Int) ≤ 1099511627776 := by omega
 go_enter Tryz.func332, Tryz.ntmps332
 go_wp2
 go_ret
 exact ⟨rfl, rfl⟩
theorem fr_sectors (m : Nat) (hm : m ≤ 480) (w : World) : Calls Tryz.prog 315 #[.int .i64 (m : Int)] w fun e w' => e = .returned (.int .i64 1) ∧ w = w' := by
 have e1 : (28 + (m : Int) + 4 + 512 - 1).tdiv 512 = 1 := by rw [Int.tdiv_eq_ediv_of_nonneg (by omega)]; omega
 go_enter Tryz.func315, Tryz.ntmps315
 go_wp2
 go_ret
 exact ⟨rfl, rfl⟩
end
end Go.Proofs.YtffalfacakdhkaaGreatDoor
