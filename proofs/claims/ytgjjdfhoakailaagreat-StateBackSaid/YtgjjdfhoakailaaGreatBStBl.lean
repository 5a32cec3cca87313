/-
  what this claim needs of: StBl (written by cut.py).
-/
import Derived.Test.YtgjjdfhoakailaaGreatBStBk
namespace Go.Proofs.YtgjjdfhoakailaaGreat
open Go.RowKit Go.Maps Go.Sort Go.Shelf
set_option linter.unusedVariables false
set_option linter.unusedSimpArgs false

def BkI (w : World) (si xi bx mi bs sj xj bj mj bt n : Nat) (k : Nat) (iv : Value) (wr : World) : Prop :=
  ∃ (i : Nat) (E : ExM) (f : MpF) (M : SnM) (E2 : ExM) (f2 : MpF) (M2 : SnM), iv = .int .i64 (i : Int) ∧ i ≤ n ∧ i + k ≤ n ∧ n ≤ i + k ∧ Bk w wr si xi bx mi bs sj xj bj mj bt 20 E f M E2 f2 M2 ∧ E.length ≤ 6000 + 18 * i ∧ E2.length ≤ 6000 + 18 * i
theorem src_dropI {w : World} {g n c j : Nat} {l : List It} (h : Src w 73 (.slice (some ⟨g, 0, none⟩) n c) n (itsC l)) (hl : l.length = n) (hj : j ≤ n) (c' : Nat) : Src w 73 (.slice (some ⟨g, j * 73, none⟩) (n - j) c') (l.drop j).length (itsC (l.drop j)) := by
  obtain ⟨A, c0, e, h1, h2⟩ := h
  injection e with e1
  subst e1
  refine ⟨some ⟨g, j * 73, none⟩, c', by rw [List.length_drop, hl], flat_len itC_len _, fun hm => ?_⟩
  rw [List.length_drop, hl] at hm
  obtain ⟨b, off, e2, hlt, hc⟩ := h2 (by omega)
  injection e2 with e2
  injection e2 with e3 e4
  subst e3 e4
  refine ⟨g, j * 73, rfl, hlt, fun q y hy => ?_⟩
  have hq := hc (j * 73 + q) y (by
    have e5 : itsC l = itsC (l.take j) ++ itsC (l.drop j) := by rw [← itsC_append, List.take_append_drop]
    have e6 : (itsC (l.take j)).length = j * 73 := by
      rw [itsC, flat_len itC_len, List.length_take]
      congr 1
      omega
    rw [e5, List.getElem?_append_right (by omega), e6, Nat.add_sub_cancel_left]
    exact hy)
  rw [Nat.zero_add] at hq
  exact hq
theorem src_takeI {w : World} {g n c j : Nat} {l : List It} (h : Src w 73 (.slice (some ⟨g, 0, none⟩) n c) n (itsC l)) (hl : l.length = n) (hj : j ≤ n) (c' : Nat) : Src w 73 (.slice (some ⟨g, 0, none⟩) j c') (l.take j).length (itsC (l.take j)) := by
  obtain ⟨A, c0, e, h1, h2⟩ := h
  injection e with e1
  subst e1
  have e7 : (l.take j).length = j := by rw [List.length_take]; omega
  refine ⟨some ⟨g, 0, none⟩, c', by rw [e7], flat_len itC_len _, fun hm => ?_⟩
  rw [e7] at hm
  obtain ⟨b, off, e2, hlt, hc⟩ := h2 (by omega)
  injection e2 with e2
  injection e2 with e3 e4
  subst e3 e4
  refine ⟨g, 0, rfl, hlt, fun q y hy => ?_⟩
  refine hc q y ?_
  have e5 : itsC l = itsC (l.take j) ++ itsC (l.drop j) := by rw [← itsC_append, List.take_append_drop]
  rw [e5, List.getElem?_append_left (List.getElem?_eq_some_iff.1 hy).1]
  exact hy
theorem src_zeroI (w : World) (A : Option Addr) (c : Nat) : Src w 73 (.slice A 0 c) 0 (itsC []) := ⟨A, c, rfl, rfl, fun h => absurd h (by omega)⟩
theorem stOf20 {w : World} {A : Option Addr} {c : Nat} {l : List It} (h : Src w 73 (.slice A l.length c) l.length (itsC l)) (hn : l.length ≤ 1000000) (hb : ∀ i ∈ l, ItB i) (hm : makesB ((20 : Nat) : Int) l = true) :
    Calls Tryz.prog 31 #[.int .i64 20, .slice A l.length c] w (OfMade w 20 l) :=
  (stOf_any h rfl hn hb 20 (by omega)).mono (fun e w' hh => hh.2 hm)
theorem StO.lowerB {w0 w1 w : World} {si xi bx mi bs n : Nat} {E : ExM} {f : MpF} {M : SnM} (h : StO w1 w si xi bx mi bs n E f M) (hb : Below w0.heap.size w0 w1) : StO w0 w si xi bx mi bs n E f M :=
  ⟨h.st, h.inv, below_chain hb h.low, by have := h.lo; have := hb.size; omega⟩
theorem StO.apart {w0 w w' : World} {si xi bx mi bs sj xj bj mj bt n m : Nat} {E E2 : ExM} {f f2 : MpF} {M M2 : SnM} (h : StO w0 w si xi bx mi bs n E f M) (k : StO w w' sj xj bj mj bt m E2 f2 M2) : ∀ x ∈ [bj, mj, bt], x ∉ [bx, mi, bs] := by
  intro x hx hy
  have h0 := k.lo
  have h1 := h.st.idx.map.lt
  have h2 := h.st.maps.blk.lt
  have h3 := h.st.maps.map.lt
  simp only [List.mem_cons, List.not_mem_nil, or_false] at hx hy
  omega
theorem bk_eq {n : Nat} {E E2 : ExM} {f f2 : MpF} {M M2 : SnM} {I J : List It} (h : Inv n E f M) (k : Inv n E2 f2 M2) (hI : I = stItems n E f M) (hJ : J.Perm I) (hp : J.Perm (stItems n E2 f2 M2)) : stItems n E2 f2 M2 = I := by
  rw [hI]
  exact sorted_eq (st_sorted k.uniq k.uniqM k.ids) (st_sorted h.uniq h.uniqM h.ids) (hp.symm.trans (by rw [← hI]; exact hJ))
theorem bk_few {n : Nat} {E2 : ExM} {f2 : MpF} {M2 : SnM} {I : List It} (h : stItems n E2 f2 M2 = I) (hl : I.length ≤ 6000) : E2.length ≤ 6000 := by
  rw [← h] at hl
  unfold stItems at hl
  rw [List.length_append, xItems_len] at hl
  omega
set_option maxRecDepth 100000 in
set_option maxHeartbeats 4000000 in
theorem back_law {w : World} {A : Option Addr} {n c : Nat} {L : List OpE} (h : OpsAt w A n c L) {A2 : Option Addr} {n2 c2 : Nat} {L2' : List OpE} (k : OpsAt w A2 n2 c2 L2') (at_ : Int) (ha : i64B at_) :
    Calls Tryz.prog 8 #[.slice A n c, .slice A2 n2 c2, .int .i64 at_] w fun e w' => e = .returned (.bool true) ∧ Below w.heap.size w w' := by
  have H := Lib.hid h
  have HL := Lib.hid h.2.1
  have K := Lib.hid k
  have KL := Lib.hid k.2.1
  have HAt := Lib.hid ha
  clear h k ha
  obtain ⟨lb, hlb⟩ : ∃ b, b = lightB L := ⟨_, rfl⟩
  have HLB := Lib.hid hlb
  obtain ⟨lc, hlc⟩ : ∃ b, b = lightB L2' := ⟨_, rfl⟩
  have KLB := Lib.hid hlc
  clear hlb hlc
  cases lb
  case false =>
    go_enter Tryz.func8, Tryz.ntmps8
    go_wp2_with
      (first
        | (go_at_call 9; refine (awake_any w).mono ?_; rintro e w1 ⟨rfl, hb⟩; have L1 := Lib.hid hb; clear hb)
        | (go_at_call 10; refine (light_any (H.out.below L1.out)).mono ?_; rintro e w2 ⟨rfl, hb⟩; rewrite [← HLB.out]; have L2 := Lib.hid (below_chain L1.out hb); clear hb))
    go_ret
    exact ⟨rfl, L2.out⟩
  case true =>
    cases lc
    case false =>
      go_enter Tryz.func8, Tryz.ntmps8
      go_wp2_with
        (first
          | (go_at_call 11; refine (new20 _).mono ?_; rintro e w4 ⟨si, xi, bx, mi, bs, rfl, h1, hb, l1, l2, l3, l4, l5⟩; have ST4 := Lib.hid (show StO w w4 si xi bx mi bs 20 [] zF [] from ⟨h1, Inv.new 20, below_chain L3.out hb, Nat.le_trans L3.out.size l1, Nat.le_trans L3.out.size l2, Nat.le_trans L3.out.size l3, Nat.le_trans L3.out.size l4, Nat.le_trans L3.out.size l5⟩); clear h1 hb l1 l2 l3 l4 l5)
          | (go_at_call 10; refine (light_any (K.out.below L2.out)).mono ?_; rintro e w3 ⟨rfl, hb⟩; rewrite [← KLB.out]; have L3 := Lib.hid (below_chain L2.out hb); clear hb)
          | (go_at_call 10; refine (light_any (H.out.below L1.out)).mono ?_; rintro e w2 ⟨rfl, hb⟩; rewrite [← HLB.out]; have L2 := Lib.hid (below_chain L1.out hb); clear hb)
          | (go_at_call 9; refine (awake_any w).mono ?_; rintro e w1 ⟨rfl, hb⟩; have L1 := Lib.hid hb; clear hb))
      go_ret
      exact ⟨rfl, L3.out⟩
    case true =>
      have HB := Lib.hid (show L.all lightE = true ∧ L.length ≤ 40 by have h := HLB.out.symm; unfold lightB at h; rw [Bool.and_eq_true] at h; exact ⟨h.1, of_decide_eq_true h.2⟩)
      have KB := Lib.hid (show L2'.all lightE = true ∧ L2'.length ≤ 40 by have h := KLB.out.symm; unfold lightB at h; rw [Bool.and_eq_true] at h; exact ⟨h.1, of_decide_eq_true h.2⟩)
      have hn : n ≤ 40 := by have h1 := HL.out; have h2 := HB.out.2; omega
      have hn2 : n2 ≤ 40 := by have h1 := KL.out; have h2 := KB.out.2; omega
      go_enter Tryz.func8, Tryz.ntmps8
      go_upto_region 7 with
        (first
          | (go_at_call 11; refine (new20 _).mono ?_; rintro e w4 ⟨si, xi, bx, mi, bs, rfl, h1, hb, l1, l2, l3, l4, l5⟩; have ST4 := Lib.hid (show StO w w4 si xi bx mi bs 20 [] zF [] from ⟨h1, Inv.new 20, below_chain L3.out hb, Nat.le_trans L3.out.size l1, Nat.le_trans L3.out.size l2, Nat.le_trans L3.out.size l3, Nat.le_trans L3.out.size l4, Nat.le_trans L3.out.size l5⟩); clear h1 hb l1 l2 l3 l4 l5)
          | (go_at_call 10; refine (light_any (K.out.below L2.out)).mono ?_; rintro e w3 ⟨rfl, hb⟩; rewrite [← KLB.out]; have L3 := Lib.hid (below_chain L2.out hb); clear hb)
          | (go_at_call 10; refine (light_any (H.out.below L1.out)).mono ?_; rintro e w2 ⟨rfl, hb⟩; rewrite [← HLB.out]; have L2 := Lib.hid (below_chain L1.out hb); clear hb)
          | (go_at_call 9; refine (awake_any w).mono ?_; rintro e w1 ⟨rfl, hb⟩; have L1 := Lib.hid hb; clear hb))
      clear L1 L2 L3
      go_loopg [8] n (fun k iv wr => ChI w si xi bx mi bs n k iv wr)
      case atStart => exact ⟨0, [], zF, [], rfl, by omega, by omega, by omega, ST4.out, by simp⟩
      case round =>
        obtain ⟨i, E, f, M, rfl, i1, i2, i3, hs, hel⟩ := hrel
        have S := Lib.hid hs
        have HE := Lib.hid hel
        clear hs hel ST4
        by_cases hi : i < n
        · have hiI : (i : Int) < (n : Int) := by omega
          have hil : i < L.length := by rw [HL.out]; exact hi
          obtain ⟨b, off, hA, hr⟩ := src_part opEC_len (H.out.1.below S.out.low) HL.out hil
          have HX := Lib.hid (H.out.2.2.1 _ (List.getElem_mem hil))
          have HX60 := Lib.hid (show lightE L[i] = true from List.all_eq_true.1 HB.out.1 _ (List.getElem_mem hil))
          generalize L[i] = x at hr HX HX60
          have HXl := Lib.hid (show x.o.news.length ≤ 60 ∧ x.o.puts.length ≤ 60 by have h := of_decide_eq_true HX60.out; omega)
          subst hA
          have Rg := Lib.hid hr
          have HOf := Lib.hid (off_args (w0 := w) S.out HX.out.1)
          clear hr HX60
          go_wp2_with (first
            | ((with_reducible show wpList _ _ _ (_ :: _) _ _); refine wpl_sidx rfl 22 (.tmp 33) (.tmp 34) (by rfl) Tryz.underlying22 Tryz.sizeOf35 b off n c i (by rfl) (by rfl) hi ?_; simp only [Act.put, List.setIfInBounds_toArray, List.set_cons_zero, List.set_cons_succ])
            | ((with_reducible show wpList _ _ _ (_ :: _) _ _); refine wpList_load_mid rfl 35 (.tmp 35) (by rfl) b (off + i * 6) (by rfl) (opEC x) _ Rg.out Tryz.underlying35 rfl (opEC_info' x) ?_; simp only [Act.put, List.setIfInBounds_toArray, List.set_cons_zero, List.set_cons_succ])
            | (go_at_call 14; refine (do_t S.out x.o x.A x.c x.B x.d (HX.out.1.below S.out.low) HOf.out.1 HOf.out.2 (by have := HXl.out; omega) (by have := HXl.out; omega) (by have := HE.out; omega) HX.out.2.1).mono ?_; rintro e w7 ⟨r, E', f', M', rfl, hd, hl, hs, hT⟩; have S7 := Lib.hid hs; have HE7 := Lib.hid (show E'.length ≤ 18 * (i + 1) by have := HE.out; omega); clear hd hl hs hT))
          go_roundg (gk - 1)
          case measure => omega
          case rel => exact ⟨i + 1, E', f', M', by congr 1, by omega, by omega, by omega, S7.out, HE7.out⟩
        · have hiI : ¬ (i : Int) < (n : Int) := by omega
          have HE2 := Lib.hid (show E.length ≤ 800 by have := HE.out; omega)
          obtain ⟨I, hI⟩ : ∃ I, I = stItems 20 E f M := ⟨_, rfl⟩
          have HI := Lib.hid hI
          have HIl := Lib.hid (show I.length ≤ 6000 by rw [hI]; have h1 := stItems_len (show 20 ≤ 512 by omega) S.out.inv; have h2 := HE2.out; omega)
          have HIt := Lib.hid (show ∀ W E2 f2 M2, stItems 20 E2 f2 M2 = I → ∀ si xi bx mi bs, StIs W si xi bx mi bs 20 E2 f2 M2 → E2.length ≤ 100000 → IdsOk M2 → Calls Tryz.prog 19 #[.pointer (some ⟨si, 0, none⟩)] W (MItPost I W) from fun W E2 f2 M2 h0 si xi bx mi bs hW hE hM => by rw [← h0]; exact st_items hW (by omega) hM)
          clear hI HE
          go_upto_region 11 with (first
            | (go_at_call 19; refine (HIt.out _ E f M HI.out.symm _ _ _ _ _ S.out.st (by have := HE2.out; omega) S.out.inv.idsOk).mono ?_; rintro e w9 ⟨v9, rfl, ho, hb⟩; obtain ⟨A9, c9, rfl, _⟩ := own_slice ho; have O9 := Lib.hid ho; have S9 := Lib.hid (S.out.below hb); clear ho hb))
          have hIl : I.length ≤ 6000 := HIl.out
          go_wp2_with (first
            | (go_at_call 25; refine heldG ?_))
          unfold HeldG
          have pk := pick_any at_ (I.length + 1) (by omega) (by have := HIl.out; omega) HAt.out w9
          rw [show ((I.length + 1 : Nat) : Int) = (I.length : Int) + 1 from by omega] at pk
          refine Calls.mono pk ?_
          clear pk
          rintro e w10 ⟨⟨j, hj, rfl⟩, rfl⟩
          go_upto_region 12 with fail
          go_cut [9, 11] (fun xv yv wx => xv = .slice A9 I.length c9 ∧ ∃ (J : List It) (A : Option Addr) (c : Nat), yv = .slice A J.length c ∧ wx.ownsRow w9.heap.size 56 73 (.slice A J.length c) J.length (itsC J) ∧ J.Perm I ∧ Below w9.heap.size w9 wx)
          case first =>
            as_aux_lemma =>
            rcases O9.out.2 with ⟨hv, h0⟩ | ⟨g, cap, cur, hv, hbg, hg, hnc, hcm, _⟩
            · injection hv with hv1 hv2 hv3
              have hI0 : I = [] := List.eq_nil_of_length_eq_zero h0
              obtain rfl : j = 0 := by omega
              subst hv1 hv3
              obtain ⟨j, hj⟩ : ∃ j : Nat, j = 0 := ⟨0, rfl⟩
              have HS1 := Lib.hid (show ∀ W, Below w9.heap.size w9 W → Src W 73 (.slice none 0 0) (I.drop j).length (itsC (I.drop j)) from fun W hW => by rw [hI0, List.drop_nil]; exact src_zeroI W none 0)
              have HS2 := Lib.hid (show ∀ W, Below w9.heap.size w9 W → Src W 73 (.slice none 0 0) (I.take j).length (itsC (I.take j)) from fun W hW => by rw [hI0, List.take_nil]; exact src_zeroI W none 0)
              have H0 := Lib.hid h0
              rw [h0]
              clear h0 hv2 hI0 hIl hj
              refine wp_region_qs (fun _ w' => True) [(1, some 3), (2, some 3), (3, some 2), (5, some 3), (6, some 3), (7, some 2), (0, none), (4, none), (8, none), (9, some 3)] (by kernel_rfl) (by kernel_rfl) (by kernel_rfl) (by kernel_rfl) (by kernel_rfl) (fun _ _ _ _ _ h => h) trivial ?_
              simp only [List.map_cons, List.map_nil, List.getD_cons_succ, List.getD_cons_zero]
              (repeat (first | (refine qs_now (v := ?_) (by rfl) ?_ ?_; rotate_left 1; (· (intro w' hS; go_simp; (try (simp only [↓IntWalk.iteOmega]; go_simp)); (try simp (disch := omega) only [IntWalk.i64_in]); try with_reducible rfl)); simp only [Act.put, List.setIfInBounds_toArray, List.set_cons_zero, List.set_cons_succ]) | (refine qs_run (v := ?_) (by rfl) ?_ ?_; rotate_left 1; (· (intro j w' hS; go_simp; (try (simp only [↓IntWalk.iteOmega]; go_simp)); (try simp (disch := omega) only [IntWalk.i64_in]); try with_reducible rfl)); simp only [Act.put, List.setIfInBounds_toArray, List.set_cons_zero, List.set_cons_succ]) | (refine qs_mid (v := ?_) (by rfl) ?_ ?_; rotate_left 1; (· (intro j w' hj1 hj2 hS; go_simp; (try (simp only [↓IntWalk.iteOmega]; go_simp)); (try simp (disch := omega) only [IntWalk.i64_in]); try with_reducible rfl)); simp only [Act.put, List.setIfInBounds_toArray, List.set_cons_zero, List.set_cons_succ]) | (refine qs_skip (by rfl) ?_; simp only [Act.put, List.setIfInBounds_toArray, List.set_cons_zero, List.set_cons_succ])))
              refine qs_act ?_
              go_wp2_with ((with_reducible show wpList _ _ _ (_ :: _) _ _); refine wpl_lit0 rfl 41 56 (by rfl) Tryz.underlying41 info_It w9.heap.size (Nat.le_refl _) ?_; intro v10 w10 ho hg; have O10 := Lib.hid ho; have L10 := Lib.hid (bl_n (Below.refl _ w9).drew hg); clear ho hg; simp only [Act.put, List.setIfInBounds_toArray, List.set_cons_zero, List.set_cons_succ])
              refine ⟨trivial, ?_⟩
              (repeat (first | (refine qs_now (v := ?_) (by rfl) ?_ ?_; rotate_left 1; (· (intro w' hS; go_simp; (try (simp only [↓IntWalk.iteOmega]; go_simp)); (try simp (disch := omega) only [IntWalk.i64_in]); try with_reducible rfl)); simp only [Act.put, List.setIfInBounds_toArray, List.set_cons_zero, List.set_cons_succ]) | (refine qs_run (v := ?_) (by rfl) ?_ ?_; rotate_left 1; (· (intro j w' hS; go_simp; (try (simp only [↓IntWalk.iteOmega]; go_simp)); (try simp (disch := omega) only [IntWalk.i64_in]); try with_reducible rfl)); simp only [Act.put, List.setIfInBounds_toArray, List.set_cons_zero, List.set_cons_succ]) | (refine qs_mid (v := ?_) (by rfl) ?_ ?_; rotate_left 1; (· (intro j w' hj1 hj2 hS; go_simp; (try (simp only [↓IntWalk.iteOmega]; go_simp)); (try simp (disch := omega) only [IntWalk.i64_in]); try with_reducible rfl)); simp only [Act.put, List.setIfInBounds_toArray, List.set_cons_zero, List.set_cons_succ]) | (refine qs_skip (by rfl) ?_; simp only [Act.put, List.setIfInBounds_toArray, List.set_cons_zero, List.set_cons_succ])))
              refine qs_act ?_
              go_wp2_with ((with_reducible show wpList _ _ _ (_ :: _) _ _); refine wpl_app_its rfl (.tmp 45) (.tmp 48) (by rfl) w9.heap.size v10 [] (by rfl) O10.out _ (I.drop j) (by rfl) (HS1.out _ L10.out) (by have := HIl.out; simp; omega) L10.out.size ?_; intro v11 w11 ho hg; have O11 := Lib.hid ho; have L11 := Lib.hid (L10.out.grown hg L10.out.size (fun k hk => (own_at O10.out k hk).1)); clear ho hg; simp only [Act.put, List.setIfInBounds_toArray, List.set_cons_zero, List.set_cons_succ])
              refine ⟨trivial, ?_⟩
              (repeat (first | (refine qs_now (v := ?_) (by rfl) ?_ ?_; rotate_left 1; (· (intro w' hS; go_simp; (try (simp only [↓IntWalk.iteOmega]; go_simp)); (try simp (disch := omega) only [IntWalk.i64_in]); try with_reducible rfl)); simp only [Act.put, List.setIfInBounds_toArray, List.set_cons_zero, List.set_cons_succ]) | (refine qs_run (v := ?_) (by rfl) ?_ ?_; rotate_left 1; (· (intro j w' hS; go_simp; (try (simp only [↓IntWalk.iteOmega]; go_simp)); (try simp (disch := omega) only [IntWalk.i64_in]); try with_reducible rfl)); simp only [Act.put, List.setIfInBounds_toArray, List.set_cons_zero, List.set_cons_succ]) | (refine qs_mid (v := ?_) (by rfl) ?_ ?_; rotate_left 1; (· (intro j w' hj1 hj2 hS; go_simp; (try (simp only [↓IntWalk.iteOmega]; go_simp)); (try simp (disch := omega) only [IntWalk.i64_in]); try with_reducible rfl)); simp only [Act.put, List.setIfInBounds_toArray, List.set_cons_zero, List.set_cons_succ]) | (refine qs_skip (by rfl) ?_; simp only [Act.put, List.setIfInBounds_toArray, List.set_cons_zero, List.set_cons_succ])))
              refine qs_act ?_
              go_wp2_with ((with_reducible show wpList _ _ _ (_ :: _) _ _); refine wpl_app_its rfl (.tmp 49) (.tmp 52) (by rfl) w9.heap.size v11 ([] ++ I.drop j) (by rfl) O11.out _ (I.take j) (by rfl) (HS2.out _ L11.out) (by have := HIl.out; simp; omega) L11.out.size ?_; intro v12 w12 ho hg; have O12 := Lib.hid ho; have L12 := Lib.hid (L11.out.grown hg L11.out.size (fun k hk => (own_at O11.out k hk).1)); clear ho hg; simp only [Act.put, List.setIfInBounds_toArray, List.set_cons_zero, List.set_cons_succ])
              refine ⟨trivial, ?_⟩
              (repeat (first | (refine qs_now (v := ?_) (by rfl) ?_ ?_; rotate_left 1; (· (intro w' hS; go_simp; (try (simp only [↓IntWalk.iteOmega]; go_simp)); (try simp (disch := omega) only [IntWalk.i64_in]); try with_reducible rfl)); simp only [Act.put, List.setIfInBounds_toArray, List.set_cons_zero, List.set_cons_succ]) | (refine qs_run (v := ?_) (by rfl) ?_ ?_; rotate_left 1; (· (intro j w' hS; go_simp; (try (simp only [↓IntWalk.iteOmega]; go_simp)); (try simp (disch := omega) only [IntWalk.i64_in]); try with_reducible rfl)); simp only [Act.put, List.setIfInBounds_toArray, List.set_cons_zero, List.set_cons_succ]) | (refine qs_mid (v := ?_) (by rfl) ?_ ?_; rotate_left 1; (· (intro j w' hj1 hj2 hS; go_simp; (try (simp only [↓IntWalk.iteOmega]; go_simp)); (try simp (disch := omega) only [IntWalk.i64_in]); try with_reducible rfl)); simp only [Act.put, List.setIfInBounds_toArray, List.set_cons_zero, List.set_cons_succ]) | (refine qs_skip (by rfl) ?_; simp only [Act.put, List.setIfInBounds_toArray, List.set_cons_zero, List.set_cons_succ])))
              refine qs_nil ?_
              obtain ⟨A12, c12, hv12, _⟩ := own_slice O12.out
              subst hv12
              go_wp2_with fail
              go_meet
              exact ⟨by first | rfl | rw [H0.out], _, A12, c12, rfl, O12.out, by
                rw [List.nil_append]
                have h1 : (I.drop j ++ I.take j).Perm (I.take j ++ I.drop j) := List.perm_append_comm
                rwa [List.take_append_drop] at h1, L12.out⟩
            · injection hv with hv1 hv2 hv3
              subst hv1 hv3
              clear hv2 hbg hg hcm
              have hjl : j ≤ I.length := by omega
              have hjI : (j : Int) ≤ (I.length : Int) := by omega
              have hcI : (I.length : Int) ≤ (c9 : Int) := by omega
              by_cases hjc : c9 = j
              · subst hjc
                have HS1 := Lib.hid (show ∀ W, Below w9.heap.size w9 W → Src W 73 (.slice (some ⟨g, 0, none⟩) 0 0) (I.drop c9).length (itsC (I.drop c9)) from fun W hW => by
                  have h1 : I.drop c9 = [] := List.drop_eq_nil_of_le (by omega)
                  rw [h1]
                  exact src_zeroI W _ _)
                have HS2 := Lib.hid (show ∀ W, Below w9.heap.size w9 W → Src W 73 (.slice (some ⟨g, 0, none⟩) c9 c9) (I.take c9).length (itsC (I.take c9)) from fun W hW => src_takeI ((Src.of_own O9.out).below hW) rfl hjl _)
                refine wp_region_qs (fun _ w' => True) [(1, some 3), (2, some 3), (3, some 2), (5, some 3), (6, some 3), (7, some 2), (0, none), (4, none), (8, none), (9, some 3)] (by kernel_rfl) (by kernel_rfl) (by kernel_rfl) (by kernel_rfl) (by kernel_rfl) (fun _ _ _ _ _ h => h) trivial ?_
                simp only [List.map_cons, List.map_nil, List.getD_cons_succ, List.getD_cons_zero]
                (repeat (first | (refine qs_now (v := ?_) (by rfl) ?_ ?_; rotate_left 1; (· (intro w' hS; go_simp; (try (simp only [↓IntWalk.iteOmega]; go_simp)); (try simp (disch := omega) only [IntWalk.i64_in]); try with_reducible rfl)); simp only [Act.put, List.setIfInBounds_toArray, List.set_cons_zero, List.set_cons_succ]) | (refine qs_run (v := ?_) (by rfl) ?_ ?_; rotate_left 1; (· (intro j w' hS; go_simp; (try (simp only [↓IntWalk.iteOmega]; go_simp)); (try simp (disch := omega) only [IntWalk.i64_in]); try with_reducible rfl)); simp only [Act.put, List.setIfInBounds_toArray, List.set_cons_zero, List.set_cons_succ]) | (refine qs_mid (v := ?_) (by rfl) ?_ ?_; rotate_left 1; (· (intro j w' hj1 hj2 hS; go_simp; (try (simp only [↓IntWalk.iteOmega]; go_simp)); (try simp (disch := omega) only [IntWalk.i64_in]); try with_reducible rfl)); simp only [Act.put, List.setIfInBounds_toArray, List.set_cons_zero, List.set_cons_succ]) | (refine qs_skip (by rfl) ?_; simp only [Act.put, List.setIfInBounds_toArray, List.set_cons_zero, List.set_cons_succ])))
                refine qs_act ?_
                go_wp2_with ((with_reducible show wpList _ _ _ (_ :: _) _ _); refine wpl_lit0 rfl 41 56 (by rfl) Tryz.underlying41 info_It w9.heap.size (Nat.le_refl _) ?_; intro v10 w10 ho hg; have O10 := Lib.hid ho; have L10 := Lib.hid (bl_n (Below.refl _ w9).drew hg); clear ho hg; simp only [Act.put, List.setIfInBounds_toArray, List.set_cons_zero, List.set_cons_succ])
                refine ⟨trivial, ?_⟩
                (repeat (first | (refine qs_now (v := ?_) (by rfl) ?_ ?_; rotate_left 1; (· (intro w' hS; go_simp; (try (simp only [↓IntWalk.iteOmega]; go_simp)); (try simp (disch := omega) only [IntWalk.i64_in]); try with_reducible rfl)); simp only [Act.put, List.setIfInBounds_toArray, List.set_cons_zero, List.set_cons_succ]) | (refine qs_run (v := ?_) (by rfl) ?_ ?_; rotate_left 1; (· (intro j w' hS; go_simp; (try (simp only [↓IntWalk.iteOmega]; go_simp)); (try simp (disch := omega) only [IntWalk.i64_in]); try with_reducible rfl)); simp only [Act.put, List.setIfInBounds_toArray, List.set_cons_zero, List.set_cons_succ]) | (refine qs_mid (v := ?_) (by rfl) ?_ ?_; rotate_left 1; (· (intro j w' hj1 hj2 hS; go_simp; (try (simp only [↓IntWalk.iteOmega]; go_simp)); (try simp (disch := omega) only [IntWalk.i64_in]); try with_reducible rfl)); simp only [Act.put, List.setIfInBounds_toArray, List.set_cons_zero, List.set_cons_succ]) | (refine qs_skip (by rfl) ?_; simp only [Act.put, List.setIfInBounds_toArray, List.set_cons_zero, List.set_cons_succ])))
                refine qs_act ?_
                go_wp2_with ((with_reducible show wpList _ _ _ (_ :: _) _ _); refine wpl_app_its rfl (.tmp 45) (.tmp 48) (by rfl) w9.heap.size v10 [] (by rfl) O10.out _ (I.drop c9) (by rfl) (HS1.out _ L10.out) (by have := HIl.out; simp; omega) L10.out.size ?_; intro v11 w11 ho hg; have O11 := Lib.hid ho; have L11 := Lib.hid (L10.out.grown hg L10.out.size (fun k hk => (own_at O10.out k hk).1)); clear ho hg; simp only [Act.put, List.setIfInBounds_toArray, List.set_cons_zero, List.set_cons_succ])
                refine ⟨trivial, ?_⟩
                (repeat (first | (refine qs_now (v := ?_) (by rfl) ?_ ?_; rotate_left 1; (· (intro w' hS; go_simp; (try (simp only [↓IntWalk.iteOmega]; go_simp)); (try simp (disch := omega) only [IntWalk.i64_in]); try with_reducible rfl)); simp only [Act.put, List.setIfInBounds_toArray, List.set_cons_zero, List.set_cons_succ]) | (refine qs_run (v := ?_) (by rfl) ?_ ?_; rotate_left 1; (· (intro j w' hS; go_simp; (try (simp only [↓IntWalk.iteOmega]; go_simp)); (try simp (disch := omega) only [IntWalk.i64_in]); try with_reducible rfl)); simp only [Act.put, List.setIfInBounds_toArray, List.set_cons_zero, List.set_cons_succ]) | (refine qs_mid (v := ?_) (by rfl) ?_ ?_; rotate_left 1; (· (intro j w' hj1 hj2 hS; go_simp; (try (simp only [↓IntWalk.iteOmega]; go_simp)); (try simp (disch := omega) only [IntWalk.i64_in]); try with_reducible rfl)); simp only [Act.put, List.setIfInBounds_toArray, List.set_cons_zero, List.set_cons_succ]) | (refine qs_skip (by rfl) ?_; simp only [Act.put, List.setIfInBounds_toArray, List.set_cons_zero, List.set_cons_succ])))
                refine qs_act ?_
                go_wp2_with ((with_reducible show wpList _ _ _ (_ :: _) _ _); refine wpl_app_its rfl (.tmp 49) (.tmp 52) (by rfl) w9.heap.size v11 ([] ++ I.drop c9) (by rfl) O11.out _ (I.take c9) (by rfl) (HS2.out _ L11.out) (by have := HIl.out; simp; omega) L11.out.size ?_; intro v12 w12 ho hg; have O12 := Lib.hid ho; have L12 := Lib.hid (L11.out.grown hg L11.out.size (fun k hk => (own_at O11.out k hk).1)); clear ho hg; simp only [Act.put, List.setIfInBounds_toArray, List.set_cons_zero, List.set_cons_succ])
                refine ⟨trivial, ?_⟩
                (repeat (first | (refine qs_now (v := ?_) (by rfl) ?_ ?_; rotate_left 1; (· (intro w' hS; go_simp; (try (simp only [↓IntWalk.iteOmega]; go_simp)); (try simp (disch := omega) only [IntWalk.i64_in]); try with_reducible rfl)); simp only [Act.put, List.setIfInBounds_toArray, List.set_cons_zero, List.set_cons_succ]) | (refine qs_run (v := ?_) (by rfl) ?_ ?_; rotate_left 1; (· (intro j w' hS; go_simp; (try (simp only [↓IntWalk.iteOmega]; go_simp)); (try simp (disch := omega) only [IntWalk.i64_in]); try with_reducible rfl)); simp only [Act.put, List.setIfInBounds_toArray, List.set_cons_zero, List.set_cons_succ]) | (refine qs_mid (v := ?_) (by rfl) ?_ ?_; rotate_left 1; (· (intro j w' hj1 hj2 hS; go_simp; (try (simp only [↓IntWalk.iteOmega]; go_simp)); (try simp (disch := omega) only [IntWalk.i64_in]); try with_reducible rfl)); simp only [Act.put, List.setIfInBounds_toArray, List.set_cons_zero, List.set_cons_succ]) | (refine qs_skip (by rfl) ?_; simp only [Act.put, List.setIfInBounds_toArray, List.set_cons_zero, List.set_cons_succ])))
                refine qs_nil ?_
                obtain ⟨A12, c12, hv12, _⟩ := own_slice O12.out
                subst hv12
                go_wp2_with fail
                go_meet
                exact ⟨by first | rfl | rw [H0.out], _, A12, c12, rfl, O12.out, by
                  rw [List.nil_append]
                  have h1 : (I.drop c9 ++ I.take c9).Perm (I.take c9 ++ I.drop c9) := List.perm_append_comm
                  rwa [List.take_append_drop] at h1, L12.out⟩
              · have hjcI : ¬ (c9 : Int) = (j : Int) := by omega
                have HS1 := Lib.hid (show ∀ W, Below w9.heap.size w9 W → Src W 73 (.slice (some ⟨g, j * 73, none⟩) (I.length - j) (c9 - j)) (I.drop j).length (itsC (I.drop j)) from fun W hW => src_dropI ((Src.of_own O9.out).below hW) rfl hjl _)
                have HS2 := Lib.hid (show ∀ W, Below w9.heap.size w9 W → Src W 73 (.slice (some ⟨g, 0, none⟩) j c9) (I.take j).length (itsC (I.take j)) from fun W hW => src_takeI ((Src.of_own O9.out).below hW) rfl hjl _)
                refine wp_region_qs (fun _ w' => True) [(1, some 3), (2, some 3), (3, some 2), (5, some 3), (6, some 3), (7, some 2), (0, none), (4, none), (8, none), (9, some 3)] (by kernel_rfl) (by kernel_rfl) (by kernel_rfl) (by kernel_rfl) (by kernel_rfl) (fun _ _ _ _ _ h => h) trivial ?_
                simp only [List.map_cons, List.map_nil, List.getD_cons_succ, List.getD_cons_zero]
                (repeat (first | (refine qs_now (v := ?_) (by rfl) ?_ ?_; rotate_left 1; (· (intro w' hS; go_simp; (try (simp only [↓IntWalk.iteOmega]; go_simp)); (try simp (disch := omega) only [IntWalk.i64_in]); try with_reducible rfl)); simp only [Act.put, List.setIfInBounds_toArray, List.set_cons_zero, List.set_cons_succ]) | (refine qs_run (v := ?_) (by rfl) ?_ ?_; rotate_left 1; (· (intro j w' hS; go_simp; (try (simp only [↓IntWalk.iteOmega]; go_simp)); (try simp (disch := omega) only [IntWalk.i64_in]); try with_reducible rfl)); simp only [Act.put, List.setIfInBounds_toArray, List.set_cons_zero, List.set_cons_succ]) | (refine qs_mid (v := ?_) (by rfl) ?_ ?_; rotate_left 1; (· (intro j w' hj1 hj2 hS; go_simp; (try (simp only [↓IntWalk.iteOmega]; go_simp)); (try simp (disch := omega) only [IntWalk.i64_in]); try with_reducible rfl)); simp only [Act.put, List.setIfInBounds_toArray, List.set_cons_zero, List.set_cons_succ]) | (refine qs_skip (by rfl) ?_; simp only [Act.put, List.setIfInBounds_toArray, List.set_cons_zero, List.set_cons_succ])))
                refine qs_act ?_
                go_wp2_with ((with_reducible show wpList _ _ _ (_ :: _) _ _); refine wpl_lit0 rfl 41 56 (by rfl) Tryz.underlying41 info_It w9.heap.size (Nat.le_refl _) ?_; intro v10 w10 ho hg; have O10 := Lib.hid ho; have L10 := Lib.hid (bl_n (Below.refl _ w9).drew hg); clear ho hg; simp only [Act.put, List.setIfInBounds_toArray, List.set_cons_zero, List.set_cons_succ])
                refine ⟨trivial, ?_⟩
                (repeat (first | (refine qs_now (v := ?_) (by rfl) ?_ ?_; rotate_left 1; (· (intro w' hS; go_simp; (try (simp only [↓IntWalk.iteOmega]; go_simp)); (try simp (disch := omega) only [IntWalk.i64_in]); try with_reducible rfl)); simp only [Act.put, List.setIfInBounds_toArray, List.set_cons_zero, List.set_cons_succ]) | (refine qs_run (v := ?_) (by rfl) ?_ ?_; rotate_left 1; (· (intro j w' hS; go_simp; (try (simp only [↓IntWalk.iteOmega]; go_simp)); (try simp (disch := omega) only [IntWalk.i64_in]); try with_reducible rfl)); simp only [Act.put, List.setIfInBounds_toArray, List.set_cons_zero, List.set_cons_succ]) | (refine qs_mid (v := ?_) (by rfl) ?_ ?_; rotate_left 1; (· (intro j w' hj1 hj2 hS; go_simp; (try (simp only [↓IntWalk.iteOmega]; go_simp)); (try simp (disch := omega) only [IntWalk.i64_in]); try with_reducible rfl)); simp only [Act.put, List.setIfInBounds_toArray, List.set_cons_zero, List.set_cons_succ]) | (refine qs_skip (by rfl) ?_; simp only [Act.put, List.setIfInBounds_toArray, List.set_cons_zero, List.set_cons_succ])))
                refine qs_act ?_
                go_wp2_with ((with_reducible show wpList _ _ _ (_ :: _) _ _); refine wpl_app_its rfl (.tmp 45) (.tmp 48) (by rfl) w9.heap.size v10 [] (by rfl) O10.out _ (I.drop j) (by rfl) (HS1.out _ L10.out) (by have := HIl.out; simp; omega) L10.out.size ?_; intro v11 w11 ho hg; have O11 := Lib.hid ho; have L11 := Lib.hid (L10.out.grown hg L10.out.size (fun k hk => (own_at O10.out k hk).1)); clear ho hg; simp only [Act.put, List.setIfInBounds_toArray, List.set_cons_zero, List.set_cons_succ])
                refine ⟨trivial, ?_⟩
                (repeat (first | (refine qs_now (v := ?_) (by rfl) ?_ ?_; rotate_left 1; (· (intro w' hS; go_simp; (try (simp only [↓IntWalk.iteOmega]; go_simp)); (try simp (disch := omega) only [IntWalk.i64_in]); try with_reducible rfl)); simp only [Act.put, List.setIfInBounds_toArray, List.set_cons_zero, List.set_cons_succ]) | (refine qs_run (v := ?_) (by rfl) ?_ ?_; rotate_left 1; (· (intro j w' hS; go_simp; (try (simp only [↓IntWalk.iteOmega]; go_simp)); (try simp (disch := omega) only [IntWalk.i64_in]); try with_reducible rfl)); simp only [Act.put, List.setIfInBounds_toArray, List.set_cons_zero, List.set_cons_succ]) | (refine qs_mid (v := ?_) (by rfl) ?_ ?_; rotate_left 1; (· (intro j w' hj1 hj2 hS; go_simp; (try (simp only [↓IntWalk.iteOmega]; go_simp)); (try simp (disch := omega) only [IntWalk.i64_in]); try with_reducible rfl)); simp only [Act.put, List.setIfInBounds_toArray, List.set_cons_zero, List.set_cons_succ]) | (refine qs_skip (by rfl) ?_; simp only [Act.put, List.setIfInBounds_toArray, List.set_cons_zero, List.set_cons_succ])))
                refine qs_act ?_
                go_wp2_with ((with_reducible show wpList _ _ _ (_ :: _) _ _); refine wpl_app_its rfl (.tmp 49) (.tmp 52) (by rfl) w9.heap.size v11 ([] ++ I.drop j) (by rfl) O11.out _ (I.take j) (by rfl) (HS2.out _ L11.out) (by have := HIl.out; simp; omega) L11.out.size ?_; intro v12 w12 ho hg; have O12 := Lib.hid ho; have L12 := Lib.hid (L11.out.grown hg L11.out.size (fun k hk => (own_at O11.out k hk).1)); clear ho hg; simp only [Act.put, List.setIfInBounds_toArray, List.set_cons_zero, List.set_cons_succ])
                refine ⟨trivial, ?_⟩
                (repeat (first | (refine qs_now (v := ?_) (by rfl) ?_ ?_; rotate_left 1; (· (intro w' hS; go_simp; (try (simp only [↓IntWalk.iteOmega]; go_simp)); (try simp (disch := omega) only [IntWalk.i64_in]); try with_reducible rfl)); simp only [Act.put, List.setIfInBounds_toArray, List.set_cons_zero, List.set_cons_succ]) | (refine qs_run (v := ?_) (by rfl) ?_ ?_; rotate_left 1; (· (intro j w' hS; go_simp; (try (simp only [↓IntWalk.iteOmega]; go_simp)); (try simp (disch := omega) only [IntWalk.i64_in]); try with_reducible rfl)); simp only [Act.put, List.setIfInBounds_toArray, List.set_cons_zero, List.set_cons_succ]) | (refine qs_mid (v := ?_) (by rfl) ?_ ?_; rotate_left 1; (· (intro j w' hj1 hj2 hS; go_simp; (try (simp only [↓IntWalk.iteOmega]; go_simp)); (try simp (disch := omega) only [IntWalk.i64_in]); try with_reducible rfl)); simp only [Act.put, List.setIfInBounds_toArray, List.set_cons_zero, List.set_cons_succ]) | (refine qs_skip (by rfl) ?_; simp only [Act.put, List.setIfInBounds_toArray, List.set_cons_zero, List.set_cons_succ])))
                refine qs_nil ?_
                obtain ⟨A12, c12, hv12, _⟩ := own_slice O12.out
                subst hv12
                go_wp2_with fail
                go_meet
                exact ⟨by first | rfl | rw [H0.out], _, A12, c12, rfl, O12.out, by
                  rw [List.nil_append]
                  have h1 : (I.drop j ++ I.take j).Perm (I.take j ++ I.drop j) := List.perm_append_comm
                  rwa [List.take_append_drop] at h1, L12.out⟩
          case rest =>
          obtain ⟨rfl, J, A12, c12, rfl, hJo, hJp, hb⟩ := hcut
          have O12 := Lib.hid hJo
          have S12 := Lib.hid (S9.out.below hb)
          have O9' := Lib.hid (own_belowR O9.out hb)
          have HJp := Lib.hid hJp
          have HMk := Lib.hid (show makesB ((20 : Nat) : Int) J = true from makes_perm (by omega) S12.out.inv (by rw [← HI.out]; exact hJp))
          have HIB := Lib.hid (show ∀ i ∈ I, ItB i by rw [HI.out]; exact stItems_B (show 20 ≤ 512 by omega) S12.out.inv)
          have HJB := Lib.hid (show ∀ i ∈ J, ItB i from fun i hi => HIB.out i (hJp.mem_iff.1 hi))
          have HJl := Lib.hid (show J.length ≤ 6000 by rw [hJp.length_eq]; exact HIl.out)
          clear hJo hJp hb hIl hj O9 S9 S
          go_upto_region 17 with
            (first
              | (go_at_call 31; refine (stOf20 (Src.of_own O12.out) (by have := HJl.out; omega) HJB.out HMk.out).mono ?_; rintro e w13 ⟨sj, xj, bj, mj, bt, E2, f2, M2, rfl, hst, hp⟩; have S13 := Lib.hid (S12.out.below hst.low); have O13 := Lib.hid (own_belowR O9'.out hst.low); have T13 := Lib.hid (hst.lowerB S12.out.low); have AP := Lib.hid (S12.out.apart hst); have HQ := Lib.hid (bk_eq S13.out.inv hst.inv HI.out HJp.out hp); have HE3 := Lib.hid (bk_few HQ.out HIl.out); clear hst hp)
              | (go_at_call 19; refine (HIt.out _ E2 f2 M2 HQ.out _ _ _ _ _ T13.out.st (by have := HE3.out; omega) T13.out.inv.idsOk).mono ?_; rintro e w14 ⟨v14, rfl, ho, hb⟩; obtain ⟨A14, c14, rfl, _⟩ := own_slice ho; have O14 := Lib.hid ho; have O15 := Lib.hid (own_belowR O13.out hb); have S14 := Lib.hid (S13.out.below hb); have T14 := Lib.hid (T13.out.below hb); clear ho hb)
              | (go_at_call 18; refine (same_own O14.out O15.out HIB.out (by have := HIl.out; omega)).mono ?_; rintro e w15 ⟨rfl, hb⟩; have B15 := Lib.hid (show Bk w w15 si xi bx mi bs sj xj bj mj bt 20 E f M E2 f2 M2 from ⟨S14.out.below hb, T14.out.below hb, by rw [HQ.out]; exact HI.out.symm, AP.out⟩); clear hb))
          clear O12 O9' S12 S13 T13 O13 S14 T14 O14 O15 HMk HJB HIt
          go_loopg [14] n2 (fun k iv wr => BkI w si xi bx mi bs sj xj bj mj bt n2 k iv wr)
          case atStart => exact ⟨0, E, f, M, E2, f2, M2, rfl, by omega, by omega, by omega, B15.out, by have := HE2.out; omega, by have := HE3.out; omega⟩
          case round =>
            obtain ⟨i, E, f, M, E2, f2, M2, rfl, i1, i2, i3, hB, hel, hel2⟩ := hrel
            have B := Lib.hid hB
            have HE := Lib.hid (show E.length ≤ 6000 + 18 * i ∧ E.length ≤ 8000 by omega)
            have HF := Lib.hid (show E2.length ≤ 6000 + 18 * i ∧ E2.length ≤ 8000 by omega)
            clear hB hel hel2 B15 HE2 HE3 HQ
            by_cases hi : i < n2
            · have hiI : (i : Int) < (n2 : Int) := by omega
              have hil : i < L2'.length := by rw [KL.out]; exact hi
              obtain ⟨b, off, hA, hr0⟩ := src_part opEC_len K.out.1 KL.out hil
              have HX := Lib.hid (K.out.2.2.1 _ (List.getElem_mem hil))
              have HX60 := Lib.hid (show lightE L2'[i] = true from List.all_eq_true.1 KB.out.1 _ (List.getElem_mem hil))
              generalize L2'[i] = x at hr0 HX HX60
              have HXl := Lib.hid (show x.o.news.length ≤ 60 ∧ x.o.puts.length ≤ 60 by have h := of_decide_eq_true HX60.out; omega)
              subst hA
              have HR := Lib.hid (show ∀ W, Below w.heap.size w W → W.rangeAt b (off + i * 6) (opEC x) from fun W hW => blk_rng hr0 hW (by rw [opEC_len]; omega))
              clear hr0 HX60
              go_upto_region 19 with fail
              refine wp_region_qs (fun _ w' => w'.rangeAt b (off + i * 6) (opEC x)) [(0, some 1), (1, some 2), (2, some 2), (3, some 2), (4, some 1), (6, some 1), (7, some 2), (8, some 2), (9, some 2), (10, some 1), (5, none), (11, none), (12, some 2)] (by kernel_rfl) (by kernel_rfl) (by kernel_rfl) (by kernel_rfl) (by kernel_rfl) (fun _ _ _ _ _ h => h) (HR.out _ B.out.s.low.drew) ?_
              simp only [List.map_cons, List.map_nil, List.getD_cons_succ, List.getD_cons_zero]
              have HOs := Lib.hid (off_args (w0 := w) B.out.s HX.out.1)
              have HOt := Lib.hid (off_args (w0 := w) B.out.t HX.out.1)
              (repeat (first | ((first | (refine qs_row (by rfl) 35 (.tmp 77) (by rfl) b (off + i * 6) (by rfl) (opEC x) _ (fun j w' _ h2 h => h) Tryz.underlying35 rfl (opEC_info' x) ?_) | (refine qs_row (by rfl) 35 (.tmp 83) (by rfl) b (off + i * 6) (by rfl) (opEC x) _ (fun j w' _ h2 h => h) Tryz.underlying35 rfl (opEC_info' x) ?_)); simp only [Act.put, List.setIfInBounds_toArray, List.set_cons_zero, List.set_cons_succ]) | (refine qs_now (v := ?_) (by rfl) ?_ ?_; rotate_left 1; (· (intro w' hS; go_simp; (try (simp only [↓IntWalk.iteOmega]; go_simp)); (try simp (disch := omega) only [IntWalk.i64_in]); try with_reducible rfl)); simp only [Act.put, List.setIfInBounds_toArray, List.set_cons_zero, List.set_cons_succ]) | (refine qs_run (v := ?_) (by rfl) ?_ ?_; rotate_left 1; (· (intro j w' hS; go_simp; (try (simp only [↓IntWalk.iteOmega]; go_simp)); (try simp (disch := omega) only [IntWalk.i64_in]); try with_reducible rfl)); simp only [Act.put, List.setIfInBounds_toArray, List.set_cons_zero, List.set_cons_succ]) | (refine qs_mid (v := ?_) (by rfl) ?_ ?_; rotate_left 1; (· (intro j w' hj1 hj2 hS; go_simp; (try (simp only [↓IntWalk.iteOmega]; go_simp)); (try simp (disch := omega) only [IntWalk.i64_in]); try with_reducible rfl)); simp only [Act.put, List.setIfInBounds_toArray, List.set_cons_zero, List.set_cons_succ]) | (refine qs_skip (by rfl) ?_; simp only [Act.put, List.setIfInBounds_toArray, List.set_cons_zero, List.set_cons_succ])))
              refine qs_act ?_
              go_wp2_with (go_at_call 14; refine (do_t B.out.s.drew x.o x.A x.c x.B x.d (HX.out.1.below B.out.s.low.drew) HOs.out.1 HOs.out.2 (by have := HXl.out; omega) (by have := HXl.out; omega) (by have := HE.out; omega) HX.out.2.1).mono ?_; rintro e w16 ⟨r, E', f', M', rfl, hd, hl, hs, hT⟩; have HD := Lib.hid hd; have HE7 := Lib.hid (show E'.length ≤ 6000 + 18 * (i + 1) by have := HE.out; omega); have S16 := Lib.hid hs; have T16 := Lib.hid (B.out.s.drew.beside B.out.t.drew B.out.ap hT); clear hd hl hs hT)
              refine ⟨HR.out _ S16.out.low, ?_⟩
              (repeat (first | ((first | (refine qs_row (by rfl) 35 (.tmp 77) (by rfl) b (off + i * 6) (by rfl) (opEC x) _ (fun j w' _ h2 h => h) Tryz.underlying35 rfl (opEC_info' x) ?_) | (refine qs_row (by rfl) 35 (.tmp 83) (by rfl) b (off + i * 6) (by rfl) (opEC x) _ (fun j w' _ h2 h => h) Tryz.underlying35 rfl (opEC_info' x) ?_)); simp only [Act.put, List.setIfInBounds_toArray, List.set_cons_zero, List.set_cons_succ]) | (refine qs_now (v := ?_) (by rfl) ?_ ?_; rotate_left 1; (· (intro w' hS; go_simp; (try (simp only [↓IntWalk.iteOmega]; go_simp)); (try simp (disch := omega) only [IntWalk.i64_in]); try with_reducible rfl)); simp only [Act.put, List.setIfInBounds_toArray, List.set_cons_zero, List.set_cons_succ]) | (refine qs_run (v := ?_) (by rfl) ?_ ?_; rotate_left 1; (· (intro j w' hS; go_simp; (try (simp only [↓IntWalk.iteOmega]; go_simp)); (try simp (disch := omega) only [IntWalk.i64_in]); try with_reducible rfl)); simp only [Act.put, List.setIfInBounds_toArray, List.set_cons_zero, List.set_cons_succ]) | (refine qs_mid (v := ?_) (by rfl) ?_ ?_; rotate_left 1; (· (intro j w' hj1 hj2 hS; go_simp; (try (simp only [↓IntWalk.iteOmega]; go_simp)); (try simp (disch := omega) only [IntWalk.i64_in]); try with_reducible rfl)); simp only [Act.put, List.setIfInBounds_toArray, List.set_cons_zero, List.set_cons_succ]) | (refine qs_skip (by rfl) ?_; simp only [Act.put, List.setIfInBounds_toArray, List.set_cons_zero, List.set_cons_succ])))
              refine qs_act ?_
              go_wp2_with (go_at_call 14; refine (do_t T16.out x.o x.A x.c x.B x.d (HX.out.1.below T16.out.low) HOt.out.1 HOt.out.2 (by have := HXl.out; omega) (by have := HXl.out; omega) (by have := HF.out; omega) HX.out.2.1).mono ?_; rintro e w17 ⟨r2, E2', f2', M2', rfl, kd, kl, ks, kT⟩; obtain ⟨hr2, heq⟩ := do_alike (by omega) B.out.s.inv B.out.t.inv B.out.eq HD.out kd; subst hr2; have hrr : (r != r) = false := (by simp); have HF7 := Lib.hid (show E2'.length ≤ 6000 + 18 * (i + 1) by have := HF.out; omega); have B17 := Lib.hid (show Bk w w17 si xi bx mi bs sj xj bj mj bt 20 E' f' M' E2' f2' M2' from ⟨T16.out.beside S16.out (fun y hy hz => B.out.ap y hz hy) kT, ks, heq, B.out.ap⟩); clear kd kl ks kT heq)
              refine ⟨HR.out _ B17.out.s.low, ?_⟩
              (repeat (first | ((first | (refine qs_row (by rfl) 35 (.tmp 77) (by rfl) b (off + i * 6) (by rfl) (opEC x) _ (fun j w' _ h2 h => h) Tryz.underlying35 rfl (opEC_info' x) ?_) | (refine qs_row (by rfl) 35 (.tmp 83) (by rfl) b (off + i * 6) (by rfl) (opEC x) _ (fun j w' _ h2 h => h) Tryz.underlying35 rfl (opEC_info' x) ?_)); simp only [Act.put, List.setIfInBounds_toArray, List.set_cons_zero, List.set_cons_succ]) | (refine qs_now (v := ?_) (by rfl) ?_ ?_; rotate_left 1; (· (intro w' hS; go_simp; (try (simp only [↓IntWalk.iteOmega]; go_simp)); (try simp (disch := omega) only [IntWalk.i64_in]); try with_reducible rfl)); simp only [Act.put, List.setIfInBounds_toArray, List.set_cons_zero, List.set_cons_succ]) | (refine qs_run (v := ?_) (by rfl) ?_ ?_; rotate_left 1; (· (intro j w' hS; go_simp; (try (simp only [↓IntWalk.iteOmega]; go_simp)); (try simp (disch := omega) only [IntWalk.i64_in]); try with_reducible rfl)); simp only [Act.put, List.setIfInBounds_toArray, List.set_cons_zero, List.set_cons_succ]) | (refine qs_mid (v := ?_) (by rfl) ?_ ?_; rotate_left 1; (· (intro j w' hj1 hj2 hS; go_simp; (try (simp only [↓IntWalk.iteOmega]; go_simp)); (try simp (disch := omega) only [IntWalk.i64_in]); try with_reducible rfl)); simp only [Act.put, List.setIfInBounds_toArray, List.set_cons_zero, List.set_cons_succ]) | (refine qs_skip (by rfl) ?_; simp only [Act.put, List.setIfInBounds_toArray, List.set_cons_zero, List.set_cons_succ])))
              refine qs_nil ?_
              go_wp2_with fail
              go_roundg (gk - 1)
              case measure => omega
              case rel => exact ⟨i + 1, E', f', M', E2', f2', M2', by congr 1, by omega, by omega, by omega, B17.out, HE7.out, HF7.out⟩
            · have hiI : ¬ (i : Int) < (n2 : Int) := by omega
              obtain ⟨I', hI'⟩ : ∃ I', I' = stItems 20 E f M := ⟨_, rfl⟩
              have HIa := Lib.hid (show ∀ W, StIs W si xi bx mi bs 20 E f M → Calls Tryz.prog 19 #[.pointer (some ⟨si, 0, none⟩)] W (MItPost I' W) from fun W hW => by rw [hI']; exact st_items hW (by have := HE.out; omega) B.out.s.inv.idsOk)
              have HIb := Lib.hid (show ∀ W, StIs W sj xj bj mj bt 20 E2 f2 M2 → Calls Tryz.prog 19 #[.pointer (some ⟨sj, 0, none⟩)] W (MItPost I' W) from fun W hW => by rw [hI', B.out.eq]; exact st_items hW (by have := HF.out; omega) B.out.t.inv.idsOk)
              have HIc := Lib.hid (show (∀ i ∈ I', ItB i) ∧ I'.length ≤ 100000 by rw [hI']; exact ⟨stItems_B (show 20 ≤ 512 by omega) B.out.s.inv, by have h1 := stItems_len (show 20 ≤ 512 by omega) B.out.s.inv; have h2 := HE.out; omega⟩)
              clear hI'
              go_wp2_with (first
                | (go_at_call 19; (with_reducible show Calls _ _ #[.pointer (some ⟨si, 0, none⟩)] _ _); refine (HIa.out _ B.out.s.st).mono ?_; rintro e w17 ⟨v17, rfl, ho, hb⟩; obtain ⟨A17, c17, rfl, _⟩ := own_slice ho; have O17 := Lib.hid ho; have B17 := Lib.hid (B.out.below hb); clear ho hb)
                | (go_at_call 19; (with_reducible show Calls _ _ #[.pointer (some ⟨sj, 0, none⟩)] _ _); refine (HIb.out _ B17.out.t.st).mono ?_; rintro e w18 ⟨v18, rfl, ho, hb⟩; obtain ⟨A18, c18, rfl, _⟩ := own_slice ho; have O18 := Lib.hid ho; have O19 := Lib.hid (own_belowR O17.out hb); have B18 := Lib.hid (B17.out.below hb); clear ho hb)
                | (go_at_call 18; refine (same_own O19.out O18.out HIc.out.1 (by have := HIc.out.2; omega)).mono ?_; rintro e w20 ⟨rfl, hb⟩; have B20 := Lib.hid (B18.out.below hb); clear hb))
              go_ret
              exact ⟨rfl, B20.out.s.low⟩
end Go.Proofs.YtgjjdfhoakailaaGreat
