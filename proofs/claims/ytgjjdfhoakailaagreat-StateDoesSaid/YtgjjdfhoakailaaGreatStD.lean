/-
  Check: walked; Pick; StateChecks: walked.
  StateChecks: walked.
-/
import Derived.Test.YtgjjdfhoakailaaGreatStT5
import Derived.Test.YtgjjdfhoakailaaGreatStT3
import Derived.Test.YtgjjdfhoakailaaGreatStK2
namespace Go.Proofs.YtgjjdfhoakailaaGreat
open Go.RowKit Go.Maps Go.Sort Go.Shelf
set_option linter.unusedVariables false
set_option linter.unusedSimpArgs false

theorem check_any {w : World} {si xi bx mi bs n : Nat} {E : ExM} {f : MpF} {M : SnM} (h : StIs w si xi bx mi bs n E f M) (hE : E.length ≤ 100000000) (hM : IdsOk M) (hb : ∀ i ∈ stItems n E f M, ItB i) (hl : (stItems n E f M).length ≤ 1000000) :
    Calls Tryz.prog 21 #[.pointer (some ⟨si, 0, none⟩)] w fun e w' => e = .returned (.int .i64 (if makesB (n : Int) (stItems n E f M) = true then 0 else 10)) ∧ Below w.heap.size w w' := by
  have H := Lib.hid h
  have HE := Lib.hid hE
  have HM := Lib.hid hM
  have HB := Lib.hid hb
  have HL := Lib.hid hl
  obtain ⟨mk, hmk⟩ : ∃ b, b = makesB (n : Int) (stItems n E f M) := ⟨_, rfl⟩
  have HMk := Lib.hid hmk
  have c0 := h.c0
  clear h hE hM hb hl
  rw [← hmk]
  clear hmk
  go_enter Tryz.func21, Tryz.ntmps21
  go_wp2_with (go_at_call 40; refine (st_there H.out).mono ?_; rintro e w1 ⟨rfl, rfl⟩)
  refine wp_region_qs (fun _ w' => w'.cell? ⟨si, 0, none⟩ = some (.int .i64 (n : Int))) [(0, some 2), (1, some 2), (2, some 2), (3, some 1), (4, some 1), (5, none), (6, none), (7, some 2), (8, some 2)] (by kernel_rfl) (by kernel_rfl) (by kernel_rfl) (by kernel_rfl) (by kernel_rfl) (fun _ _ _ _ _ h => h) c0 ?_
  simp only [List.map_cons, List.map_nil, List.getD_cons_succ, List.getD_cons_zero]
  (repeat (first | (refine qs_now (v := ?_) (by rfl) ?_ ?_; rotate_left 1; (· (intro w' hS; go_simp; (try (simp only [↓IntWalk.iteOmega]; go_simp)); (try simp (disch := omega) only [IntWalk.i64_in]); try with_reducible rfl)); simp only [Act.put, List.setIfInBounds_toArray, List.set_cons_zero, List.set_cons_succ]) | (refine qs_run (v := ?_) (by rfl) ?_ ?_; rotate_left 1; (· (intro j w' hS; go_simp; (try (simp only [↓IntWalk.iteOmega]; go_simp)); (try simp (disch := omega) only [IntWalk.i64_in]); try with_reducible rfl)); simp only [Act.put, List.setIfInBounds_toArray, List.set_cons_zero, List.set_cons_succ]) | (refine qs_mid (v := ?_) (by rfl) ?_ ?_; rotate_left 1; (· (intro j w' hj1 hj2 hS; go_simp; (try (simp only [↓IntWalk.iteOmega]; go_simp)); (try simp (disch := omega) only [IntWalk.i64_in]); try with_reducible rfl)); simp only [Act.put, List.setIfInBounds_toArray, List.set_cons_zero, List.set_cons_succ]) | (refine qs_skip (by rfl) ?_; simp only [Act.put, List.setIfInBounds_toArray, List.set_cons_zero, List.set_cons_succ])))
  refine qs_act ?_
  go_wp2_with (go_at_call 19; refine (st_items H.out.drew HE.out HM.out).mono ?_; rintro e w2 ⟨v, rfl, ho, hb⟩; obtain ⟨A2, c2, rfl, hs⟩ := Src.of_own ho; have S2 := Lib.hid (show Src w2 73 (.slice A2 (stItems n E f M).length c2) (stItems n E f M).length (itsC (stItems n E f M)) from ⟨A2, c2, rfl, hs⟩); have L2 := Lib.hid (below_chain (Below.refl _ _).drew hb); clear ho hb hs)
  have H2 := Lib.hid (H.out.below L2.out)
  refine ⟨H2.out.c0, ?_⟩
  (repeat (first | (refine qs_now (v := ?_) (by rfl) ?_ ?_; rotate_left 1; (· (intro w' hS; go_simp; (try (simp only [↓IntWalk.iteOmega]; go_simp)); (try simp (disch := omega) only [IntWalk.i64_in]); try with_reducible rfl)); simp only [Act.put, List.setIfInBounds_toArray, List.set_cons_zero, List.set_cons_succ]) | (refine qs_run (v := ?_) (by rfl) ?_ ?_; rotate_left 1; (· (intro j w' hS; go_simp; (try (simp only [↓IntWalk.iteOmega]; go_simp)); (try simp (disch := omega) only [IntWalk.i64_in]); try with_reducible rfl)); simp only [Act.put, List.setIfInBounds_toArray, List.set_cons_zero, List.set_cons_succ]) | (refine qs_mid (v := ?_) (by rfl) ?_ ?_; rotate_left 1; (· (intro j w' hj1 hj2 hS; go_simp; (try (simp only [↓IntWalk.iteOmega]; go_simp)); (try simp (disch := omega) only [IntWalk.i64_in]); try with_reducible rfl)); simp only [Act.put, List.setIfInBounds_toArray, List.set_cons_zero, List.set_cons_succ]) | (refine qs_skip (by rfl) ?_; simp only [Act.put, List.setIfInBounds_toArray, List.set_cons_zero, List.set_cons_succ])))
  refine qs_act ?_
  go_wp2_with (go_at_call 64; refine (makes_any (n : Int) S2.out rfl HB.out HL.out).mono ?_; rintro e w3 ⟨rfl, hb⟩; rewrite [← HMk.out]; have L3 := Lib.hid hb; clear hb)
  have H3 := Lib.hid (H2.out.below L3.out)
  refine ⟨H3.out.c0, ?_⟩
  cases mk
  all_goals
    (repeat (first | (refine qs_now (v := ?_) (by rfl) ?_ ?_; rotate_left 1; (· (intro w' hS; go_simp; (try (simp only [↓IntWalk.iteOmega]; go_simp)); (try simp (disch := omega) only [IntWalk.i64_in]); try with_reducible rfl)); simp only [Act.put, List.setIfInBounds_toArray, List.set_cons_zero, List.set_cons_succ]) | (refine qs_run (v := ?_) (by rfl) ?_ ?_; rotate_left 1; (· (intro j w' hS; go_simp; (try (simp only [↓IntWalk.iteOmega]; go_simp)); (try simp (disch := omega) only [IntWalk.i64_in]); try with_reducible rfl)); simp only [Act.put, List.setIfInBounds_toArray, List.set_cons_zero, List.set_cons_succ]) | (refine qs_mid (v := ?_) (by rfl) ?_ ?_; rotate_left 1; (· (intro j w' hj1 hj2 hS; go_simp; (try (simp only [↓IntWalk.iteOmega]; go_simp)); (try simp (disch := omega) only [IntWalk.i64_in]); try with_reducible rfl)); simp only [Act.put, List.setIfInBounds_toArray, List.set_cons_zero, List.set_cons_succ]) | (refine qs_skip (by rfl) ?_; simp only [Act.put, List.setIfInBounds_toArray, List.set_cons_zero, List.set_cons_succ])))
    refine qs_nil ?_
    go_wp2_with fail
    go_ret
    exact ⟨rfl, below_chain L2.out L3.out⟩
theorem pick_any (x : Int) (n : Nat) (hn : 1 ≤ n) (hb : n ≤ 1000000000) (hx : i64B x) (w : World) : Calls Tryz.prog 25 #[.int .i64 x, .int .i64 (n : Int)] w fun e w' => (∃ j : Nat, j < n ∧ e = .returned (.int .i64 (j : Int))) ∧ w = w' := by
  have h1 : -(n : Int) < Int.tmod x (n : Int) ∧ Int.tmod x (n : Int) < (n : Int) := by
    have hp : (0 : Int) < (n : Int) := by omega
    exact ⟨Int.lt_tmod_of_pos x hp, Int.tmod_lt_of_pos x hp⟩
  obtain ⟨r, hr⟩ : ∃ r, r = Int.tmod x (n : Int) := ⟨_, rfl⟩
  rw [← hr] at h1
  have hw : IntKind.i64.wrap (Int.tmod x (n : Int)) = r := by rw [← hr]; simp (disch := omega) only [IntWalk.i64_in]
  have h2 : ¬ (n : Int) < 1 := by omega
  have h3 : (n : Int) ≠ 0 := by omega
  obtain ⟨h11, h12⟩ := h1
  have hrs := hr.symm
  clear hr
  by_cases hneg : r < 0
  · go_enter Tryz.func25, Tryz.ntmps25
    go_wp2_with fail
    go_ret
    refine ⟨⟨(r + n).toNat, by omega, ?_⟩, rfl⟩
    have e : ((r + n).toNat : Int) = r + n := by omega
    rw [e]
    rfl
  · have hneg' : 0 ≤ r := by omega
    go_enter Tryz.func25, Tryz.ntmps25
    go_wp2_with fail
    go_ret
    refine ⟨⟨r.toNat, by omega, ?_⟩, rfl⟩
    have e : (r.toNat : Int) = r := by omega
    rw [e]
    rfl
end Go.Proofs.YtgjjdfhoakailaaGreat
namespace Go.Proofs.YtgjjdfhoakailaaGreat
open Go.RowKit Go.Maps Go.Sort Go.Shelf
set_option linter.unusedVariables false
set_option linter.unusedSimpArgs false

theorem opEC_info' (e : OpE) : (Tryz.prog.info? 35).map (·.size) = some (opEC e).length := opC_info _ _ _ _ _
theorem want_B {n : Nat} (hn : n ≤ 512) {E : ExM} {f : MpF} {M : SnM} (h : Inv n E f M) (K : Key) (d : Int) : ∀ i ∈ stItems n (wantX E K d) f M, ItB i := by
  intro i hi
  rcases List.mem_append.1 hi with hi | hi
  · obtain ⟨p, hp, rfl⟩ := xItems_mem.1 hi
    have hu := (wantX_uniq h.uniq K d).1
    have hg := aget_mem_some hu hp
    rw [wantX_get] at hg
    have hB : PlB p.2 := by
      split at hg
      · rename_i hk
        unfold turn1 at hg
        cases he : aget E K with
        | none => rw [he] at hg; cases hg
        | some q =>
          rw [he] at hg
          have hq := mayP_B (h.may K q he)
          have hq2 := mayP_facts (h.may K q he)
          simp only at hg
          split at hg
          · rename_i hw
            split at hg
            · cases hg
            · injection hg with hg
              rw [← hg]
              unfold wantIn at hw
              refine ⟨hq.1, hq.2.1, hq.2.2.1, ?_⟩
              unfold plAdd i64B
              simp only
              omega
          · injection hg with hg
            rw [← hg]
            exact hq
      · exact mayP_B (h.may _ _ hg)
    exact ⟨by simp [exIt], hB, i64B_zero, i64B_zero, zSl_B⟩
  · exact mItems_B hn h i hi
theorem off_args {w w0 : World} {si xi bx mi bs n : Nat} {E : ExM} {f : MpF} {M : SnM} {wr : World} (h : StO w wr si xi bx mi bs n E f M) {x : OpE} (hx : OpAt w x.o x.A x.c x.B x.d) : Off x.o.news.length [bx, mi, bs] x.A ∧ Off x.o.puts.length [bx, mi, bs] x.B := by
  have g : ∀ {m sz : Nat} {A : Option Addr} {c : Nat} {xs : List Value}, Src w sz (.slice A m c) m xs → Off m [bx, mi, bs] A := fun {m sz A c xs} h' hm p hp hk => by
    obtain ⟨A', c', e, _, hc⟩ := h'
    injection e with e
    subst e
    obtain ⟨b', o', e2, hlt', _⟩ := hc hm
    rw [hp] at e2
    injection e2 with e2
    subst e2
    have := h.lo
    simp at hk
    omega
  exact ⟨g hx.news, g hx.puts⟩
def ChI (w : World) (si xi bx mi bs n : Nat) (k : Nat) (iv : Value) (wr : World) : Prop :=
  ∃ (i : Nat) (E : ExM) (f : MpF) (M : SnM), iv = .int .i64 (i : Int) ∧ i ≤ n ∧ i + k ≤ n ∧ n ≤ i + k ∧ StO w wr si xi bx mi bs 20 E f M ∧ E.length ≤ 18 * i
set_option maxRecDepth 100000 in
set_option maxHeartbeats 4000000 in
theorem checks_law {w : World} {A : Option Addr} {n c : Nat} {L : List OpE} (h : OpsAt w A n c L) (k d : Int) (hk : i64B k) (hd : i64B d) :
    Calls Tryz.prog 4 #[.slice A n c, .int .i64 k, .int .i64 d] w fun e w' => e = .returned (.bool true) ∧ Below w.heap.size w w' := by
  have H := Lib.hid h
  have HL := Lib.hid h.2.1
  have HKb := Lib.hid hk
  have HDb := Lib.hid hd
  clear h hk hd
  obtain ⟨lb, hlb⟩ : ∃ b, b = lightB L := ⟨_, rfl⟩
  have HLB := Lib.hid hlb
  clear hlb
  cases lb
  case false =>
    go_enter Tryz.func4, Tryz.ntmps4
    go_wp2_with
      (first
        | (go_at_call 9; refine (awake_any w).mono ?_; rintro e w1 ⟨rfl, hb⟩; have L1 := Lib.hid hb; clear hb)
        | (go_at_call 10; refine (light_any (H.out.below L1.out)).mono ?_; rintro e w2 ⟨rfl, hb⟩; rewrite [← HLB.out]; have L2 := Lib.hid (below_chain L1.out hb); clear hb)
        | (go_at_call 11; refine (new20 _).mono ?_; rintro e w3 ⟨si, xi, bx, mi, bs, rfl, h1, hb, l1, l2, l3, l4, l5⟩; have ST3 := Lib.hid (show StO w w3 si xi bx mi bs 20 [] zF [] from ⟨h1, Inv.new 20, below_chain L2.out hb, Nat.le_trans L2.out.size l1, Nat.le_trans L2.out.size l2, Nat.le_trans L2.out.size l3, Nat.le_trans L2.out.size l4, Nat.le_trans L2.out.size l5⟩); clear h1 hb l1 l2 l3 l4 l5))
    go_ret
    exact ⟨rfl, L2.out⟩
  case true =>
    have HB := Lib.hid (show L.all lightE = true ∧ L.length ≤ 40 by have h := HLB.out.symm; unfold lightB at h; rw [Bool.and_eq_true] at h; exact ⟨h.1, of_decide_eq_true h.2⟩)
    have hn : n ≤ 40 := by have h1 := HL.out; have h2 := HB.out.2; omega
    go_enter Tryz.func4, Tryz.ntmps4
    go_upto_region 7 with
      (first
        | (go_at_call 9; refine (awake_any w).mono ?_; rintro e w1 ⟨rfl, hb⟩; have L1 := Lib.hid hb; clear hb)
        | (go_at_call 10; refine (light_any (H.out.below L1.out)).mono ?_; rintro e w2 ⟨rfl, hb⟩; rewrite [← HLB.out]; have L2 := Lib.hid (below_chain L1.out hb); clear hb)
        | (go_at_call 11; refine (new20 _).mono ?_; rintro e w3 ⟨si, xi, bx, mi, bs, rfl, h1, hb, l1, l2, l3, l4, l5⟩; have ST3 := Lib.hid (show StO w w3 si xi bx mi bs 20 [] zF [] from ⟨h1, Inv.new 20, below_chain L2.out hb, Nat.le_trans L2.out.size l1, Nat.le_trans L2.out.size l2, Nat.le_trans L2.out.size l3, Nat.le_trans L2.out.size l4, Nat.le_trans L2.out.size l5⟩); clear h1 hb l1 l2 l3 l4 l5))
    clear L1 L2
    go_loopg [8] n (fun k iv wr => ChI w si xi bx mi bs n k iv wr)
    case atStart => exact ⟨0, [], zF, [], rfl, by omega, by omega, by omega, ST3.out, by simp⟩
    case round =>
      obtain ⟨i, E, f, M, rfl, i1, i2, i3, hs, hel⟩ := hrel
      have S := Lib.hid hs
      have HE := Lib.hid hel
      clear hs hel ST3
      by_cases hi : i < n
      · have hiI : (i : Int) < (n : Int) := by omega
        have hil : i < L.length := by rw [HL.out]; exact hi
        obtain ⟨b, off, hA, hr⟩ := src_part opEC_len (H.out.1.below S.out.low) HL.out hil
        have HX := Lib.hid (H.out.2.2.1 _ (List.getElem_mem hil))
        have HX60 := Lib.hid (show lightE L[i] = true from List.all_eq_true.1 HB.out.1 _ (List.getElem_mem hil))
        generalize L[i] = x at hr HX HX60
        have HXl := Lib.hid (show x.o.news.length ≤ 60 ∧ x.o.puts.length ≤ 60 by have h := of_decide_eq_true HX60.out; omega)
        subst hA
        have Rg := Lib.hid hr
        have HOf := Lib.hid (off_args (w0 := w) S.out HX.out.1)
        clear hr HX60
        go_wp2_with (first
          | ((with_reducible show wpList _ _ _ (_ :: _) _ _); refine wpl_sidx rfl 22 (.tmp 24) (.tmp 25) (by rfl) Tryz.underlying22 Tryz.sizeOf35 b off n c i (by rfl) (by rfl) hi ?_; simp only [Act.put, List.setIfInBounds_toArray, List.set_cons_zero, List.set_cons_succ])
          | ((with_reducible show wpList _ _ _ (_ :: _) _ _); refine wpList_load_mid rfl 35 (.tmp 26) (by rfl) b (off + i * 6) (by rfl) (opEC x) _ Rg.out Tryz.underlying35 rfl (opEC_info' x) ?_; simp only [Act.put, List.setIfInBounds_toArray, List.set_cons_zero, List.set_cons_succ])
          | (go_at_call 14; refine (do_t S.out x.o x.A x.c x.B x.d (HX.out.1.below S.out.low) HOf.out.1 HOf.out.2 (by have := HXl.out; omega) (by have := HXl.out; omega) (by have := HE.out; omega) HX.out.2.1).mono ?_; rintro e w7 ⟨r, E', f', M', rfl, hd, hl, hs, hT⟩; have S7 := Lib.hid hs; have HE7 := Lib.hid (show E'.length ≤ 18 * (i + 1) by have := HE.out; omega); clear hd hl hs hT))
        go_roundg (gk - 1)
        case measure => omega
        case rel => exact ⟨i + 1, E', f', M', by congr 1, by omega, by omega, by omega, S7.out, HE7.out⟩
      · have hiI : ¬ (i : Int) < (n : Int) := by omega
        have HE2 := Lib.hid (show E.length ≤ 800 by have := HE.out; omega)
        have hel : E.length ≤ 800 := HE2.out
        go_upto_region 11 with (first
          | (go_at_call 22; refine (st_index S.out.st).mono ?_; rintro e w8 ⟨rfl, rfl⟩)
          | (go_at_call 23; refine (xItems_any S.out.st.idx (by have := HE2.out; omega)).mono ?_; rintro e w9 ⟨v9, rfl, ho, hb⟩; obtain ⟨A9, c9, rfl, _⟩ := own_slice ho; have O9 := Lib.hid ho; have S9 := Lib.hid (S.out.below hb); clear ho hb))
        have HXl := Lib.hid (xItems_len E)
        have HCk := Lib.hid (show (if makesB ((20 : Nat) : Int) (stItems 20 E f M) = true then (0 : Int) else 10) = 0 by rw [inv_makes (by omega) S9.out.inv]; rfl)
        have HSB := Lib.hid (stItems_B (show 20 ≤ 512 by omega) S9.out.inv)
        have HSl := Lib.hid (show (stItems 20 E f M).length ≤ 1000000 by have h1 := stItems_len (show 20 ≤ 512 by omega) S9.out.inv; omega)
        by_cases hz : E.length = 0 ∨ d = 0
        · by_cases hz1 : E.length = 0
          · have e1 : ((xItems E).length : Int) = 0 := by rw [HXl.out, hz1]; rfl
            have e2 : (((xItems E).length : Int) == 0) = true := beq_iff_eq.2 e1
            have HE2' := Lib.hid e2
            clear e1 hz
            go_wp2_with (first
              | (go_at_call 21; refine (check_any S9.out.st (by have := HE2.out; omega) S9.out.inv.idsOk HSB.out HSl.out).mono ?_; rintro e w10 ⟨rfl, hb⟩; rewrite [HCk.out]; have S10 := Lib.hid (S9.out.below hb); clear hb))
            go_ret
            exact ⟨rfl, S10.out.low⟩
          · have hd0 : d = 0 := by omega
            have e2 : (((xItems E).length : Int) == 0) = false := by rw [beq_eq_false_iff_ne, HXl.out]; omega
            have e3 : (d == 0) = true := beq_iff_eq.2 hd0
            clear hz hz1 hd0
            go_wp2_with (first
              | (go_at_call 21; refine (check_any S9.out.st (by have := HE2.out; omega) S9.out.inv.idsOk HSB.out HSl.out).mono ?_; rintro e w10 ⟨rfl, hb⟩; rewrite [HCk.out]; have S10 := Lib.hid (S9.out.below hb); clear hb))
            go_ret
            exact ⟨rfl, S10.out.low⟩
        · have hz1 : E.length ≠ 0 := fun e => hz (.inl e)
          have hz2 : d ≠ 0 := fun e => hz (.inr e)
          have e2 : (((xItems E).length : Int) == 0) = false := by rw [beq_eq_false_iff_ne, HXl.out]; omega
          have e3 : (d == 0) = false := beq_eq_false_iff_ne.2 hz2
          have HZ2 := Lib.hid hz2
          have HPn := Lib.hid (show 1 ≤ (xItems E).length ∧ (xItems E).length ≤ 1000000000 by have := HXl.out; omega)
          clear hz hz1 hz2
          go_upto_region 13 with fail
          go_wp2_with (first
            | (go_at_call 22; refine (st_index S9.out.st).mono ?_; rintro e w8 ⟨rfl, rfl⟩)
            | (go_at_call 25; refine heldG ?_))
          unfold HeldG
          refine (pick_any k _ HPn.out.1 HPn.out.2 HKb.out w9).mono ?_
          rintro e w10 ⟨⟨j, hj, rfl⟩, rfl⟩
          obtain ⟨b2, off2, hA2, hr2⟩ := src_part itC_len (Src.of_own O9.out) rfl hj
          obtain ⟨p, hp, hxp⟩ := xItems_mem.1 (List.getElem_mem hj)
          have hg := aget_mem_some S9.out.inv.uniq hp
          generalize (xItems E)[j] = x at hr2 hxp
          have hxk : x.key = p.1 := by rw [hxp]; rfl
          subst hA2
          have RK := Lib.hid (show w9.rangeAt b2 (off2 + j * 73 + 1) (keyL x.key) from fun q v hv => by
            have h1 : (itC x)[1 + q]? = some v := by
              rw [← it_key x, List.getElem?_take] at hv
              split at hv
              · rw [List.getElem?_drop] at hv; exact hv
              · cases hv
            have := hr2 (1 + q) v h1
            rw [← Nat.add_assoc] at this
            exact this)
          have HWm := Lib.hid (want_makes (show 20 ≤ 512 by omega) S9.out.inv HZ2.out (show aget E x.key = some p.2 by rw [hxk]; exact hg))
          have HWB := Lib.hid (want_B (show 20 ≤ 512 by omega) S9.out.inv x.key d)
          have HWl := Lib.hid (wantX_uniq S9.out.inv.uniq x.key d).2
          have HWi := Lib.hid (show (stItems 20 (wantX E x.key d) f M).length ≤ 1000000 by
            have h1 := mItems_len (show 20 ≤ 512 by omega) f M
            have h2 := xItems_len (wantX E x.key d)
            have h3 := S9.out.inv.len
            have h4 := HWl.out
            unfold stItems
            rw [List.length_append]
            omega)
          obtain ⟨te, hte⟩ : ∃ t, t = turnE E x.key d := ⟨_, rfl⟩
          have HTe := Lib.hid hte
          rw [← hte] at HWm
          clear hr2 hxp hxk hg hte hp
          by_cases h0 : te = 0
          · have HT0 := Lib.hid h0
            have HCk2 := Lib.hid (show (if makesB ((20 : Nat) : Int) (stItems 20 (wantX E x.key d) f M) = true then (0 : Int) else 10) = 10 by rw [HWm.out, h0]; rfl)
            clear h0
            go_wp2_with (first
              | ((with_reducible show wpList _ _ _ (_ :: _) _ _); refine wpl_sidx rfl 41 (.tmp 44) (.tmp 48) (by rfl) Tryz.underlying41 Tryz.sizeOf56 b2 off2 (xItems E).length c9 j (by rfl) (by rfl) hj ?_; simp only [Act.put, List.setIfInBounds_toArray, List.set_cons_zero, List.set_cons_succ])
              | ((with_reducible show wpList _ _ _ (_ :: _) _ _); refine wpList_load_mid rfl 50 (.tmp 50) (by rfl) b2 (off2 + j * 73 + 1) (by rfl) (keyL x.key) _ RK.out Tryz.underlying50 rfl (keyL_info _) ?_; simp only [Act.put, List.setIfInBounds_toArray, List.set_cons_zero, List.set_cons_succ])
              | (go_at_call 24; refine (x_want S9.out.st.idx x.key d (by have := HE2.out; omega) S9.out.inv.refOk HDb.out).mono ?_; rintro e w12 ⟨rfl, h1, h2⟩; rewrite [← HTe.out]; rewrite [HT0.out]; have X12 := Lib.hid h1; have T12 := Lib.hid h2; have S12 := Lib.hid (S9.out.st.newIdx h1 h2 (fun k hk => by simpa using hk)); have L12 := Lib.hid (S9.out.low.trans (h2.toBelow S9.out.low.size (fun k hk => by have := S9.out.lo; simp at hk; omega))); clear h1 h2)
              | (go_at_call 21; refine (check_any S12.out (by have := HE2.out; have := HWl.out; omega) S9.out.inv.idsOk HWB.out HWi.out).mono ?_; rintro e w13 ⟨rfl, hb⟩; rewrite [HCk2.out]; have L13 := Lib.hid (below_chain L12.out hb); clear hb))
            go_ret
            exact ⟨rfl, L13.out⟩
          · have HT0 := Lib.hid h0
            have HCk2 := Lib.hid (show (if makesB ((20 : Nat) : Int) (stItems 20 (wantX E x.key d) f M) = true then (0 : Int) else 10) = 0 by rw [HWm.out, decide_eq_true h0]; rfl)
            have hb1 : (te != 0) = true := by simpa using h0
            clear h0
            go_wp2_with (first
              | ((with_reducible show wpList _ _ _ (_ :: _) _ _); refine wpl_sidx rfl 41 (.tmp 44) (.tmp 48) (by rfl) Tryz.underlying41 Tryz.sizeOf56 b2 off2 (xItems E).length c9 j (by rfl) (by rfl) hj ?_; simp only [Act.put, List.setIfInBounds_toArray, List.set_cons_zero, List.set_cons_succ])
              | ((with_reducible show wpList _ _ _ (_ :: _) _ _); refine wpList_load_mid rfl 50 (.tmp 50) (by rfl) b2 (off2 + j * 73 + 1) (by rfl) (keyL x.key) _ RK.out Tryz.underlying50 rfl (keyL_info _) ?_; simp only [Act.put, List.setIfInBounds_toArray, List.set_cons_zero, List.set_cons_succ])
              | (go_at_call 24; refine (x_want S9.out.st.idx x.key d (by have := HE2.out; omega) S9.out.inv.refOk HDb.out).mono ?_; rintro e w12 ⟨rfl, h1, h2⟩; rewrite [← HTe.out]; have X12 := Lib.hid h1; have T12 := Lib.hid h2; have S12 := Lib.hid (S9.out.st.newIdx h1 h2 (fun k hk => by simpa using hk)); have L12 := Lib.hid (S9.out.low.trans (h2.toBelow S9.out.low.size (fun k hk => by have := S9.out.lo; simp at hk; omega))); clear h1 h2)
              | (go_at_call 21; refine (check_any S12.out (by have := HE2.out; have := HWl.out; omega) S9.out.inv.idsOk HWB.out HWi.out).mono ?_; rintro e w13 ⟨rfl, hb⟩; rewrite [HCk2.out]; have L13 := Lib.hid (below_chain L12.out hb); clear hb))
            go_ret
            exact ⟨rfl, L13.out⟩
end Go.Proofs.YtgjjdfhoakailaaGreat
