/-
  what this claim needs of: StN3 (written by cut.py).
-/
import Derived.Test.YtgjjdfhoakailaaGreatBStN1
namespace Go.Proofs.YtgjjdfhoakailaaGreat
open Go.RowKit Go.Maps Go.Sort Go.Shelf
set_option linter.unusedVariables false
set_option linter.unusedSimpArgs false

/-- A state that was made behind w0, with what holds of it. -/
structure StO (w0 w : World) (si xi bx mi bs n : Nat) (E : ExM) (f : MpF) (M : SnM) : Prop where
  st : StIs w si xi bx mi bs n E f M
  inv : Inv n E f M
  low : Below w0.heap.size w0 w
  lo : w0.heap.size ≤ si ∧ w0.heap.size ≤ xi ∧ w0.heap.size ≤ bx ∧ w0.heap.size ≤ mi ∧ w0.heap.size ≤ bs
section
variable {w0 w w' : World} {si xi bx mi bs n : Nat} {E : ExM} {f : MpF} {M : SnM}
theorem StO.below (h : StO w0 w si xi bx mi bs n E f M) (hb : Below w.heap.size w w') : StO w0 w' si xi bx mi bs n E f M := ⟨h.st.below hb, h.inv, below_chain h.low hb, h.lo⟩
theorem StO.drew (h : StO w0 w si xi bx mi bs n E f M) : StO w0 w.drew si xi bx mi bs n E f M := h.below (Below.refl _ _).drew
def DoO (w0 : World) (si xi bx mi bs n : Nat) (E : ExM) (f : MpF) (M : SnM) (o : OpV) (e : Ending) (w' : World) : Prop :=
  ∃ r E' f' M', e = .returned (.int .i64 r) ∧ DoR n E f M o r E' f' M' ∧ E'.length ≤ E.length + 18 ∧ StO w0 w' si xi bx mi bs n E' f' M'
theorem do_o (h : StO w0 w si xi bx mi bs n E f M) (o : OpV) (A : Option Addr) (c : Nat) (B : Option Addr) (d : Nat) (h0 : OpAt w o A c B d) (hA : Off o.news.length [bx, mi, bs] A) (hB : Off o.puts.length [bx, mi, bs] B) (hn : o.news.length ≤ 10000000) (hm : o.puts.length ≤ 10000000) (hE : E.length ≤ 10000000) (hk0 : 0 ≤ o.kind ∧ o.kind < 256) :
    Calls Tryz.prog 14 #[.pointer (some ⟨si, 0, none⟩), .agg (opC o A c B d).toArray] w (DoO w0 si xi bx mi bs n E f M o) := by
  refine (do_any h.st o A c B d h0 hA hB hn hm hE h.inv.idsOk (by have := h.inv.len; omega) h.inv.refOk hk0).mono ?_
  rintro e w' ⟨r, E', f', M', rfl, hd, h1, h2⟩
  have hi := do_inv h.st.maps.high h.inv hd
  refine ⟨r, E', f', M', rfl, hd, hi.2, h1, hi.1, h.low.trans (h2.toBelow h.low.size (fun k hk => ?_)), h.lo⟩
  have := h.lo
  simp at hk
  omega
end
theorem check_nil {w : World} {si xi bx mi bs n : Nat} {E : ExM} {f : MpF} {M : SnM} (h : StIs w si xi bx mi bs n E f M) (hE : E.length ≤ 100000000) (hM : IdsOk M) (h0 : stItems n E f M = []) :
    Calls Tryz.prog 21 #[.pointer (some ⟨si, 0, none⟩)] w fun e w' => e = .returned (.int .i64 0) ∧ Below w.heap.size w w' := by
  have H := Lib.hid h
  have HE := Lib.hid hE
  have HM := Lib.hid hM
  have H0 := Lib.hid h0
  have c0 := h.c0
  clear h hE hM h0
  go_enter Tryz.func21, Tryz.ntmps21
  go_wp2_with (go_at_call 40; refine (st_there H.out).mono ?_; rintro e w1 ⟨rfl, rfl⟩)
  refine wp_region_qs (fun _ w' => w'.cell? ⟨si, 0, none⟩ = some (.int .i64 (n : Int))) [(0, some 2), (1, some 2), (2, some 2), (3, some 1), (4, some 1), (5, none), (6, none), (7, some 2), (8, some 2)] (by kernel_rfl) (by kernel_rfl) (by kernel_rfl) (by kernel_rfl) (by kernel_rfl) (fun _ _ _ _ _ h => h) c0 ?_
  simp only [List.map_cons, List.map_nil, List.getD_cons_succ, List.getD_cons_zero]
  (repeat (first | (refine qs_now (v := ?_) (by rfl) ?_ ?_; rotate_left 1; (· (intro w' hS; go_simp; (try (simp only [↓IntWalk.iteOmega]; go_simp)); (try simp (disch := omega) only [IntWalk.i64_in]); try with_reducible rfl)); simp only [Act.put, List.setIfInBounds_toArray, List.set_cons_zero, List.set_cons_succ]) | (refine qs_run (v := ?_) (by rfl) ?_ ?_; rotate_left 1; (· (intro j w' hS; go_simp; (try (simp only [↓IntWalk.iteOmega]; go_simp)); (try simp (disch := omega) only [IntWalk.i64_in]); try with_reducible rfl)); simp only [Act.put, List.setIfInBounds_toArray, List.set_cons_zero, List.set_cons_succ]) | (refine qs_mid (v := ?_) (by rfl) ?_ ?_; rotate_left 1; (· (intro j w' hj1 hj2 hS; go_simp; (try (simp only [↓IntWalk.iteOmega]; go_simp)); (try simp (disch := omega) only [IntWalk.i64_in]); try with_reducible rfl)); simp only [Act.put, List.setIfInBounds_toArray, List.set_cons_zero, List.set_cons_succ]) | (refine qs_skip (by rfl) ?_; simp only [Act.put, List.setIfInBounds_toArray, List.set_cons_zero, List.set_cons_succ])))
  refine qs_act ?_
  go_wp2_with (go_at_call 19; refine (st_items H.out.drew HE.out HM.out).mono ?_; rintro e w2 ⟨v, rfl, ho, hb⟩; rw [H0.out] at ho; obtain ⟨A2, c2, rfl, -⟩ := Src.of_own ho; have L2 := Lib.hid (below_chain (Below.refl _ _).drew hb); clear ho hb)
  have H2 := Lib.hid (H.out.below L2.out)
  refine ⟨H2.out.c0, ?_⟩
  (repeat (first | (refine qs_now (v := ?_) (by rfl) ?_ ?_; rotate_left 1; (· (intro w' hS; go_simp; (try (simp only [↓IntWalk.iteOmega]; go_simp)); (try simp (disch := omega) only [IntWalk.i64_in]); try with_reducible rfl)); simp only [Act.put, List.setIfInBounds_toArray, List.set_cons_zero, List.set_cons_succ]) | (refine qs_run (v := ?_) (by rfl) ?_ ?_; rotate_left 1; (· (intro j w' hS; go_simp; (try (simp only [↓IntWalk.iteOmega]; go_simp)); (try simp (disch := omega) only [IntWalk.i64_in]); try with_reducible rfl)); simp only [Act.put, List.setIfInBounds_toArray, List.set_cons_zero, List.set_cons_succ]) | (refine qs_mid (v := ?_) (by rfl) ?_ ?_; rotate_left 1; (· (intro j w' hj1 hj2 hS; go_simp; (try (simp only [↓IntWalk.iteOmega]; go_simp)); (try simp (disch := omega) only [IntWalk.i64_in]); try with_reducible rfl)); simp only [Act.put, List.setIfInBounds_toArray, List.set_cons_zero, List.set_cons_succ]) | (refine qs_skip (by rfl) ?_; simp only [Act.put, List.setIfInBounds_toArray, List.set_cons_zero, List.set_cons_succ])))
  refine qs_act ?_
  go_wp2_with (go_at_call 64; refine (makes_nil (n : Int) A2 c2).mono ?_; rintro e w3 ⟨rfl, hb⟩; have L3 := Lib.hid hb; clear hb)
  have H3 := Lib.hid (H2.out.below L3.out)
  refine ⟨H3.out.c0, ?_⟩
  (repeat (first | (refine qs_now (v := ?_) (by rfl) ?_ ?_; rotate_left 1; (· (intro w' hS; go_simp; (try (simp only [↓IntWalk.iteOmega]; go_simp)); (try simp (disch := omega) only [IntWalk.i64_in]); try with_reducible rfl)); simp only [Act.put, List.setIfInBounds_toArray, List.set_cons_zero, List.set_cons_succ]) | (refine qs_run (v := ?_) (by rfl) ?_ ?_; rotate_left 1; (· (intro j w' hS; go_simp; (try (simp only [↓IntWalk.iteOmega]; go_simp)); (try simp (disch := omega) only [IntWalk.i64_in]); try with_reducible rfl)); simp only [Act.put, List.setIfInBounds_toArray, List.set_cons_zero, List.set_cons_succ]) | (refine qs_mid (v := ?_) (by rfl) ?_ ?_; rotate_left 1; (· (intro j w' hj1 hj2 hS; go_simp; (try (simp only [↓IntWalk.iteOmega]; go_simp)); (try simp (disch := omega) only [IntWalk.i64_in]); try with_reducible rfl)); simp only [Act.put, List.setIfInBounds_toArray, List.set_cons_zero, List.set_cons_succ]) | (refine qs_skip (by rfl) ?_; simp only [Act.put, List.setIfInBounds_toArray, List.set_cons_zero, List.set_cons_succ])))
  refine qs_nil ?_
  go_wp2_with fail
  go_ret
  exact ⟨rfl, below_chain L2.out L3.out⟩
theorem StO.off {w0 w : World} {si xi bx mi bs n : Nat} {E : ExM} {f : MpF} {M : SnM} (h : StO w0 w si xi bx mi bs n E f M) : ∀ k ∈ [bx, mi, bs], k < w.heap.size := fun k hk => by
  have h1 := h.st.idx.map.lt
  have h2 := h.st.maps.blk.lt
  have h3 := h.st.maps.map.lt
  simp at hk
  omega
set_option maxRecDepth 100000 in
set_option maxHeartbeats 4000000 in
theorem awake_any (w : World) : Calls Tryz.prog 9 #[] w fun e w' => e = .returned (.bool true) ∧ Below w.heap.size w w' := by
  go_enter Tryz.func9, Tryz.ntmps9
  go_upto_region 2 with (go_at_call 11; refine (st_new 4 (by omega) w).mono ?_; rintro e w1 ⟨si, xi, bx, mi, bs, rfl, h1, hb, l1, l2, l3, l4, l5⟩; have H1 := Lib.hid (show StO w w1 si xi bx mi bs 4 [] zF [] from ⟨h1, Inv.new 4, hb, l1, l2, l3, l4, l5⟩); clear h1 hb l1 l2 l3 l4 l5)
  go_upto_region 4 with (first
    | (go_at_call 14; refine (do_o N5.out wOp A5 c5 B5 d5 OP5.out (OA5.out _ H4.out.off) (OB5.out _ H4.out.off) (by decide) (by decide) (by have := HE3.out; omega) (by decide)).mono ?_; rintro e w6 ⟨r, E6, f6, M6, rfl, hd, hl, hs⟩; obtain ⟨rfl, hk⟩ := wake2 K3.out hd; have H6 := Lib.hid hs; have K6 := Lib.hid hk; have HE6 := Lib.hid (show E6.length ≤ 100 by have := HE3.out; omega); clear hd hl hs hk)
    | (go_at_call 33; refine (lw_write w4).mono ?_; rintro e w5 ⟨A5, c5, B5, d5, rfl, h1, h2, h3, hb⟩; have OP5 := Lib.hid h1; have OA5 := Lib.hid h2; have OB5 := Lib.hid h3; have N5 := Lib.hid (H4.out.below hb); clear h1 h2 h3 hb)
    | (go_at_call 34; refine (wanted_any H3.out.st).mono ?_; rintro e w4 ⟨rfl, hb⟩; rewrite [HW3.out]; have H4 := Lib.hid (H3.out.below hb); clear hb)
    | (go_at_call 14; refine (do_o N2.out wOp A2 c2 B2 d2 OP2.out (OA2.out _ H1.out.off) (OB2.out _ H1.out.off) (by decide) (by decide) (by decide) (by decide)).mono ?_; rintro e w3 ⟨r, E3, f3, M3, rfl, hd, hl, hs⟩; obtain ⟨rfl, hk, hw⟩ := wake1 hd; have H3 := Lib.hid hs; have K3 := Lib.hid hk; have HW3 := Lib.hid hw; have HE3 := Lib.hid (show E3.length ≤ 18 by simpa using hl); clear hd hl hs hk hw)
    | (go_at_call 33; refine (lw_write w1).mono ?_; rintro e w2 ⟨A2, c2, B2, d2, rfl, h1, h2, h3, hb⟩; have OP2 := Lib.hid h1; have OA2 := Lib.hid h2; have OB2 := Lib.hid h3; have N2 := Lib.hid (H1.out.below hb); clear h1 h2 h3 hb))
  clear H1 OP2 OA2 OB2 N2 H3 K3 HW3 HE3 H4 OP5 OA5 OB5 N5
  go_upto_region 6 with (first
    | ((with_reducible show wpList _ _ _ (_ :: _) _ _); refine wpl_mk rfl 35 #[(0, .const (.int .u8 3)), (3, .const (.int .i64 1))] (by rfl) [(0, .int .u8 3), (3, .int .i64 1)] (by rfl) _ (built_sOp2 3 1) ?_; simp only [Act.put, List.setIfInBounds_toArray, List.set_cons_zero, List.set_cons_succ])
    | ((with_reducible show wpList _ _ _ (_ :: _) _ _); refine wpl_mk rfl 35 #[(0, .const (.int .u8 2)), (2, .const (.int .i64 16))] (by rfl) [(0, .int .u8 2), (2, .int .i64 16)] (by rfl) _ (built_sOp1 2 16) ?_; simp only [Act.put, List.setIfInBounds_toArray, List.set_cons_zero, List.set_cons_succ])
    | (go_at_call 34; refine (wanted_any H9.out.st).mono ?_; rintro e w10 ⟨rfl, hb⟩; rewrite [HW9.out]; have H10 := Lib.hid (H9.out.below hb); clear hb)
    | (go_at_call 14; refine (do_o H8.out (sOp 2 0 16 0) none 0 none 0 (op_none _ _ _ _ _) off_none off_none (by decide) (by decide) (by have := HE7.out; omega) (by decide)).mono ?_; rintro e w9 ⟨r, E9, f9, M9, rfl, hd, hl, hs⟩; obtain ⟨rfl, hk, hw⟩ := wake4 K7.out hd; have H9 := Lib.hid hs; have K9 := Lib.hid hk; have HW9 := Lib.hid hw; have HE9 := Lib.hid (show E9.length ≤ 300 by have := HE7.out; omega); clear hd hl hs hk hw)
    | (go_at_call 34; refine (wanted_any H7.out.st).mono ?_; rintro e w8 ⟨rfl, hb⟩; rewrite [HW7.out]; have H8 := Lib.hid (H7.out.below hb); clear hb)
    | (go_at_call 14; refine (do_o H6.out (sOp 3 0 0 1) none 0 none 0 (op_none _ _ _ _ _) off_none off_none (by decide) (by decide) (by have := HE6.out; omega) (by decide)).mono ?_; rintro e w7 ⟨r, E7, f7, M7, rfl, hd, hl, hs⟩; obtain ⟨rfl, hk, hw⟩ := wake3 K6.out hd; have H7 := Lib.hid hs; have K7 := Lib.hid hk; have HW7 := Lib.hid hw; have HE7 := Lib.hid (show E7.length ≤ 200 by have := HE6.out; omega); clear hd hl hs hk hw))
  clear H6 K6 HE6 H7 K7 HW7 HE7 H8 H9 HW9
  go_wp2_with (first
    | ((with_reducible show wpList _ _ _ (_ :: _) _ _); refine wpl_mk rfl 35 #[(0, .const (.int .u8 5)), (3, .const (.int .i64 2))] (by rfl) [(0, .int .u8 5), (3, .int .i64 2)] (by rfl) _ (built_sOp2 5 2) ?_; simp only [Act.put, List.setIfInBounds_toArray, List.set_cons_zero, List.set_cons_succ])
    | ((with_reducible show wpList _ _ _ (_ :: _) _ _); refine wpl_mk rfl 35 #[(0, .const (.int .u8 4)), (3, .const (.int .i64 1))] (by rfl) [(0, .int .u8 4), (3, .int .i64 1)] (by rfl) _ (built_sOp2 4 1) ?_; simp only [Act.put, List.setIfInBounds_toArray, List.set_cons_zero, List.set_cons_succ])
    | (go_at_call 21; refine (check_nil H12.out.st (by rw [HE12.out]; decide) H12.out.inv.idsOk HI12.out).mono ?_; rintro e w13 ⟨rfl, hb⟩; have H13 := Lib.hid (H12.out.below hb); clear hb)
    | (go_at_call 29; refine (x_len H12.out.st.idx).mono ?_; rintro e w15 ⟨rfl, rfl⟩; rewrite [HE12.out])
    | (go_at_call 22; refine (st_index H12.out.st).mono ?_; rintro e w14 ⟨rfl, rfl⟩)
    | (go_at_call 14; refine (do_o H11.out (sOp 4 0 0 1) none 0 none 0 (op_none _ _ _ _ _) off_none off_none (by decide) (by decide) (by have := HE11.out; omega) (by decide)).mono ?_; rintro e w12 ⟨r, E12, f12, M12, rfl, hd, hl, hs⟩; obtain ⟨rfl, he, hm, hi⟩ := wake6 K11.out hd; have H12 := Lib.hid hs; have HE12 := Lib.hid he; have HI12 := Lib.hid (show stItems 4 E12 f12 M12 = [] by unfold stItems; rw [hi, he]; simp [xItems]); clear hd hl hs he hm hi)
    | (go_at_call 14; refine (do_o H10.out (sOp 5 0 0 2) none 0 none 0 (op_none _ _ _ _ _) off_none off_none (by decide) (by decide) (by have := HE9.out; omega) (by decide)).mono ?_; rintro e w11 ⟨r, E11, f11, M11, rfl, hd, hl, hs⟩; obtain ⟨rfl, hk⟩ := wake5 K9.out hd; have H11 := Lib.hid hs; have K11 := Lib.hid hk; have HE11 := Lib.hid (show E11.length ≤ 400 by have := HE9.out; omega); clear hd hl hs hk))
  go_ret
  exact ⟨rfl, H13.out.low⟩
end Go.Proofs.YtgjjdfhoakailaaGreat
