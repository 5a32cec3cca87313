/-
  StateKeeps: walked.
-/
import Derived.Test.YtgjjdfhoakailaaGreatStK2
namespace Go.Proofs.YtgjjdfhoakailaaGreat
open Go.RowKit Go.Maps Go.Sort Go.Shelf
set_option linter.unusedVariables false
set_option linter.unusedSimpArgs false

theorem itC_ref (i : It) : (itC i)[36]? = some (.int .i64 i.pl.ref) := by
  have e : itC i = (.int .u8 i.kind :: keyL i.key) ++ (plC i.pl ++ (.int .i64 i.snap :: .int .i64 i.unit :: slC i.sl)) := rfl
  rw [e, List.getElem?_append_right (by simp [keyL_len])]
  simp [keyL_len, plC]
theorem itC_key (i : It) : ((itC i).drop 1).take (keyL i.key).length = keyL i.key := by
  show (keyL i.key ++ _).take _ = _
  rw [List.take_left]
theorem mItems_kind {n : Nat} {f : MpF} {M : SnM} {i : It} (h : i ∈ mItems n f M) : i.kind ≠ 1 := by
  unfold mItems at h
  rcases List.mem_append.1 h with h | h
  · unfold mSl at h
    obtain ⟨id, _, h⟩ := List.mem_flatMap.1 h
    obtain ⟨u, _, _, rfl⟩ := mem_slIs.1 h
    simp
  · obtain ⟨id, _, rfl⟩ := List.mem_map.1 h
    simp [snI]
def KmI (w : World) (si xi bx mi bs kb n : Nat) (k : Nat) (iv : Value) (wr : World) : Prop :=
  ∃ (i : Nat) (E : ExM) (f : MpF) (M : SnM) (KM : KpM), iv = .int .i64 (i : Int) ∧ i ≤ n ∧ i + k ≤ n ∧ n ≤ i + k ∧ KpI w si xi bx mi bs kb i i E f M KM wr ∧ KeptOk KM M
theorem own_same {w w' : World} {base n sz : Nat} {e : TypeId} {v : Value} {xs : List Value} (h : w.ownsRow base e sz v n xs) (hb : ∀ b, v.ownBlock = some b → w'.heap[b]? = w.heap[b]?) : w'.ownsRow base e sz v n xs := by
  refine ⟨h.1, h.2.imp id ?_⟩
  rintro ⟨g, cap, cur, e1, a1, a2, r⟩
  exact ⟨g, cap, cur, e1, a1, (hb g (by rw [e1]; rfl)).trans a2, r⟩
theorem opEC_info (e : OpE) : (Tryz.prog.info? 35).map (·.size) = some (opEC e).length := opC_info _ _ _ _ _
set_option maxRecDepth 100000 in
set_option maxHeartbeats 4000000 in
theorem keeps_law {w : World} {A : Option Addr} {n c : Nat} {L : List OpE} (h : OpsAt w A n c L) :
    Calls Tryz.prog 6 #[.slice A n c] w fun e w' => e = .returned (.bool true) ∧ Below w.heap.size w w' := by
  have H := Lib.hid h
  have HL := Lib.hid h.2.1
  clear h
  obtain ⟨lb, hlb⟩ : ∃ b, b = lightB L := ⟨_, rfl⟩
  have HLB := Lib.hid hlb
  clear hlb
  have hmm := @run_makeMap Tryz.prog
  cases lb
  case false =>
    go_enter Tryz.func6, Tryz.ntmps6
    go_wp2_with
      (first
        | (go_at_call 9; refine (awake_any w).mono ?_; rintro e w1 ⟨rfl, hb⟩; have L1 := Lib.hid hb; clear hb)
        | (go_at_call 10; refine (light_any (H.out.below L1.out)).mono ?_; rintro e w2 ⟨rfl, hb⟩; rewrite [← HLB.out]; have L2 := Lib.hid (below_chain L1.out hb); clear hb)
        | (go_at_call 11; refine (new20 _).mono ?_; rintro e w3 ⟨si, xi, bx, mi, bs, rfl, h1, hb, l1, l2, l3, l4, l5⟩; have ST3 := Lib.hid (show StO w w3 si xi bx mi bs 20 [] zF [] from ⟨h1, Inv.new 20, below_chain L2.out hb, Nat.le_trans L2.out.size l1, Nat.le_trans L2.out.size l2, Nat.le_trans L2.out.size l3, Nat.le_trans L2.out.size l4, Nat.le_trans L2.out.size l5⟩); clear h1 hb l1 l2 l3 l4 l5))
    go_ret
    exact ⟨rfl, L2.out⟩
  case true =>
    have HB := Lib.hid (show L.all lightE = true ∧ L.length ≤ 40 by have h := HLB.out.symm; unfold lightB at h; rw [Bool.and_eq_true] at h; exact ⟨h.1, of_decide_eq_true h.2⟩)
    have hn : n ≤ 40 := by have h1 := HL.out; have h2 := HB.out.2; omega
    go_enter Tryz.func6, Tryz.ntmps6
    go_upto_region 7 with
      (first
        | (go_at_call 9; refine (awake_any w).mono ?_; rintro e w1 ⟨rfl, hb⟩; have L1 := Lib.hid hb; clear hb)
        | (go_at_call 10; refine (light_any (H.out.below L1.out)).mono ?_; rintro e w2 ⟨rfl, hb⟩; rewrite [← HLB.out]; have L2 := Lib.hid (below_chain L1.out hb); clear hb)
        | (go_at_call 11; refine (new20 _).mono ?_; rintro e w3 ⟨si, xi, bx, mi, bs, rfl, h1, hb, l1, l2, l3, l4, l5⟩; have ST3 := Lib.hid (show StO w w3 si xi bx mi bs 20 [] zF [] from ⟨h1, Inv.new 20, below_chain L2.out hb, Nat.le_trans L2.out.size l1, Nat.le_trans L2.out.size l2, Nat.le_trans L2.out.size l3, Nat.le_trans L2.out.size l4, Nat.le_trans L2.out.size l5⟩); clear h1 hb l1 l2 l3 l4 l5))
    obtain ⟨w4, hw4⟩ : ∃ w4, w4 = w3.alloc (Obj.map #[] 0) := ⟨_, rfl⟩
    have L4 := Lib.hid (show Below w3.heap.size w3 w4 by rw [hw4]; exact (Below.refl _ _).alloc (Nat.le_refl _) _)
    have MK := Lib.hid (show MapIs Tryz.prog 3 kvI klI veR w4 w3.heap.size ([] : KpM) by rw [hw4]; exact MapIs.made w3 _ _ _ _ _)
    rw [← hw4]
    clear hw4 hmm
    have K4 := Lib.hid (show KpI w si xi bx mi bs w3.heap.size 0 0 [] zF [] [] w4 from ⟨ST3.out.below L4.out, by simp, MK.out, ⟨ST3.out.low.size, by have := ST3.out.st.idx.map.lt; omega, by have := ST3.out.st.maps.map.lt; omega⟩, by simp, by simp⟩)
    generalize w3.heap.size = kb at *
    clear MK L4 ST3 L2 L1
    go_upto_region 8 with fail
    go_loopg [5] n (fun k iv wr => KmI w si xi bx mi bs kb n k iv wr)
    case atStart => exact ⟨0, [], zF, [], [], rfl, by omega, by omega, by omega, K4.out, by intro p hp; cases hp⟩
    case round =>
      obtain ⟨i, E, f, M, KM, rfl, i1, i2, i3, hk, hkk⟩ := hrel
      have K := Lib.hid hk
      have KK := Lib.hid hkk
      clear hk hkk K4
      by_cases hi : i < n
      · have hiI : (i : Int) < (n : Int) := by omega
        have hil : i < L.length := by rw [HL.out]; exact hi
        obtain ⟨b, off, hA, hr⟩ := src_part opEC_len H.out.1 HL.out hil
        have HX := Lib.hid (H.out.2.2.1 _ (List.getElem_mem hil))
        have HX60 := Lib.hid (show lightE L[i] = true from List.all_eq_true.1 HB.out.1 _ (List.getElem_mem hil))
        generalize L[i] = x at hr HX HX60
        have hlt : b < w.heap.size := block_lt_of_cell (hr 0 _ rfl)
        have HR := Lib.hid (show ∀ W, Below w.heap.size w W → W.rangeAt b (off + i * 6) (opEC x) from fun W hW j v hv => (World.cell?_of_block (a := ⟨b, off + i * 6 + j, none⟩) (hW.block b hlt)).trans (hr j v hv))
        have HXl := Lib.hid (show x.o.news.length ≤ 60 ∧ x.o.puts.length ≤ 60 by have h := of_decide_eq_true HX60.out; omega)
        subst hA
        have HOf := Lib.hid (show Off x.o.news.length [bx, mi, bs] x.A ∧ Off x.o.puts.length [bx, mi, bs] x.B from by
          have g : ∀ {m sz : Nat} {A : Option Addr} {c : Nat} {xs : List Value}, Src w sz (.slice A m c) m xs → Off m [bx, mi, bs] A := fun {m sz A c xs} h hm p hp hk => by
            obtain ⟨A', c', e, _, hc⟩ := h
            injection e with e
            subst e
            obtain ⟨b', o', e2, hlt', _⟩ := hc hm
            rw [hp] at e2
            injection e2 with e2
            subst e2
            have := K.out.st.lo
            simp at hk
            omega
          exact ⟨g HX.out.1.news, g HX.out.1.puts⟩)
        clear hr HX60
        go_upto_region 12 with (first
          | (go_at_call 19; refine (st_items K.out.st.st (by have := K.out.len; omega) K.out.st.inv.idsOk).mono ?_; rintro e w6 ⟨v6, rfl, ho, hb⟩; have O6 := Lib.hid (own_loR ho K.out.st.low.size); have K6 := Lib.hid (K.out.below hb); clear ho hb)
          | ((with_reducible show wpList _ _ _ (_ :: _) _ _); refine wpl_sidx rfl 22 (.tmp 30) (.tmp 31) rfl Tryz.underlying22 Tryz.sizeOf35 b off n c i rfl rfl hi ?_; simp only [Act.put, List.setIfInBounds_toArray, List.set_cons_zero, List.set_cons_succ])
          | ((with_reducible show wpList _ _ _ (_ :: _) _ _); refine wpList_load_mid rfl 35 (.tmp 32) rfl b (off + i * 6) rfl (opEC x) _ (HR.out _ K6.out.st.low) Tryz.underlying35 rfl (opEC_info x) ?_; simp only [Act.put, List.setIfInBounds_toArray, List.set_cons_zero, List.set_cons_succ])
          | (go_at_call 14; refine (do_t K6.out.st x.o x.A x.c x.B x.d (HX.out.1.below K6.out.st.low) HOf.out.1 HOf.out.2 (by have := HXl.out; omega) (by have := HXl.out; omega) (by have := K.out.len; omega) HX.out.2.1).mono ?_; rintro e w7 ⟨r, E', f', M', rfl, hd, hl, hs, hT⟩; have HD := Lib.hid hd; have S7 := Lib.hid hs; have O7 := Lib.hid (own_tchN O6.out hT (K6.out.st.noRow O6.out (by decide))); have K7 := Lib.hid (K6.out.step hT hs hl); clear hd hl hs hT))
        go_cut [43] (fun cv wx => cv = .bool false ∧ Below w7.heap.size w7 wx)
        case first =>
          as_aux_lemma =>
            by_cases hr : r = 0
            · subst hr
              go_wp2_with fail
              go_meet
              exact ⟨rfl, Below.refl _ _⟩
            · have hrb : (r != 0) = true := by simpa using hr
              obtain ⟨rfl, rfl, rfl⟩ := do_err K.out.st.inv HD.out hr
              go_wp2_with (first
                | (go_at_call 19; refine (st_items S7.out.st (by have := K7.out.len; omega) S7.out.inv.idsOk).mono ?_; rintro e w8 ⟨v8, rfl, ho, hb⟩; have O8 := Lib.hid ho; have L8 := Lib.hid hb; clear ho hb)
                | (go_at_call 18; refine (same_own (own_belowR O7.out L8.out) O8.out (stItems_B (by omega) S7.out.inv) (by have h1 := stItems_len (show 20 ≤ 512 by omega) S7.out.inv; have := K7.out.len; omega)).mono ?_; rintro e w9 ⟨rfl, hb⟩; have L9 := Lib.hid (below_chain L8.out hb); clear hb))
              go_meet
              exact ⟨rfl, L9.out⟩
        case rest =>
        obtain ⟨rfl, hb⟩ := hcut
        have K8 := Lib.hid (K7.out.below hb)
        clear hb O6 K6 O7 K7 S7
        have R8 := Lib.hid (HR.out _ K8.out.st.low)
        have ckind : wc.cell? ⟨b, off + i * 6, none⟩ = some (.int .u8 x.o.kind) := by have := R8.out 0 _ rfl; simpa using this
        have csnap : wc.cell? ⟨b, off + i * 6 + 3, none⟩ = some (.int .i64 x.o.snap) := R8.out 3 _ rfl
        go_upto_region 14 with fail
        obtain ⟨tb, htb⟩ : ∃ t, t = decide (r = 0 ∧ x.o.kind = 3) := ⟨_, rfl⟩
        have HTB := Lib.hid htb
        clear htb
        go_cut [53] (fun cv wx => cv = .bool tb ∧ wc = wx)
        case first =>
          as_aux_lemma =>
            by_cases hr : r = 0
            · by_cases hk : x.o.kind = 3
              · have hkb : (x.o.kind == 3) = true := beq_iff_eq.2 hk
                subst hr
                go_wp2_with fail
                go_meet
                exact ⟨by rw [HTB.out]; simp [hk], rfl⟩
              · have hkb : (x.o.kind == 3) = false := beq_eq_false_iff_ne.2 hk
                subst hr
                go_wp2_with fail
                go_meet
                exact ⟨by rw [HTB.out]; simp [hk], rfl⟩
            · have hrb : (r == 0) = false := beq_eq_false_iff_ne.2 hr
              go_wp2_with fail
              go_meet
              exact ⟨by rw [HTB.out]; simp [hr], rfl⟩
        case rest =>
        obtain ⟨rfl, rfl⟩ := hcut
        go_upto_if 53 with fail
        go_cut [5] (fun iv wx => iv = .int .i64 (i : Int) ∧ ∃ KM', KpI w si xi bx mi bs kb (i + 1) (i + 1) E' f' M' KM' wx ∧ KeptOk KM' M' ∧ (r = 0 → x.o.kind = 5 → ∃ v, aget KM' x.o.snap = some (v, slIs 20 f' 0)))
        case first =>
          as_aux_lemma =>
            cases tb
            case true =>
              have HC := Lib.hid (of_decide_eq_true HTB.out.symm)
              go_upto_region 15 with fail
              refine wp_region_qs (fun _ w' => w'.cell? ⟨b, off + i * 6 + 3, none⟩ = some (.int .i64 x.o.snap)) [(0, some 1), (1, some 1), (2, some 1), (3, some 1), (4, some 1), (5, some 1), (6, some 0), (7, none), (8, none)] (by kernel_rfl) (by kernel_rfl) (by kernel_rfl) (by kernel_rfl) (by kernel_rfl) (fun _ _ _ _ _ h => h) csnap ?_
              simp only [List.map_cons, List.map_nil, List.getD_cons_succ, List.getD_cons_zero]
              (repeat (first | (refine qs_now (v := ?_) (by rfl) ?_ ?_; rotate_left 1; (· (intro w' hS; go_simp; (try (simp only [↓IntWalk.iteOmega]; go_simp)); (try simp (disch := omega) only [IntWalk.i64_in]); try with_reducible rfl)); simp only [Act.put, List.setIfInBounds_toArray, List.set_cons_zero, List.set_cons_succ]) | (refine qs_run (v := ?_) (by rfl) ?_ ?_; rotate_left 1; (· (intro j w' hS; go_simp; (try (simp only [↓IntWalk.iteOmega]; go_simp)); (try simp (disch := omega) only [IntWalk.i64_in]); try with_reducible rfl)); simp only [Act.put, List.setIfInBounds_toArray, List.set_cons_zero, List.set_cons_succ]) | (refine qs_mid (v := ?_) (by rfl) ?_ ?_; rotate_left 1; (· (intro j w' hj1 hj2 hS; go_simp; (try (simp only [↓IntWalk.iteOmega]; go_simp)); (try simp (disch := omega) only [IntWalk.i64_in]); try with_reducible rfl)); simp only [Act.put, List.setIfInBounds_toArray, List.set_cons_zero, List.set_cons_succ]) | (refine qs_skip (by rfl) ?_; simp only [Act.put, List.setIfInBounds_toArray, List.set_cons_zero, List.set_cons_succ])))
              refine qs_act ?_
              go_wp2_with (go_at_call 27; refine (view_any K8.out.st.st.drew 0 20 (by omega) rfl).mono ?_; rintro e w9 ⟨v9, rfl, ho, hb⟩; have O9 := Lib.hid (own_loR ho K8.out.st.low.size); have K9 := Lib.hid (K8.out.below (below_chain (Below.refl _ _).drew hb)); clear ho hb)
              have R9 := Lib.hid (HR.out _ K9.out.st.low)
              refine ⟨R9.out 3 _ rfl, ?_⟩
              (repeat (first | (refine qs_now (v := ?_) (by rfl) ?_ ?_; rotate_left 1; (· (intro w' hS; go_simp; (try (simp only [↓IntWalk.iteOmega]; go_simp)); (try simp (disch := omega) only [IntWalk.i64_in]); try with_reducible rfl)); simp only [Act.put, List.setIfInBounds_toArray, List.set_cons_zero, List.set_cons_succ]) | (refine qs_run (v := ?_) (by rfl) ?_ ?_; rotate_left 1; (· (intro j w' hS; go_simp; (try (simp only [↓IntWalk.iteOmega]; go_simp)); (try simp (disch := omega) only [IntWalk.i64_in]); try with_reducible rfl)); simp only [Act.put, List.setIfInBounds_toArray, List.set_cons_zero, List.set_cons_succ]) | (refine qs_mid (v := ?_) (by rfl) ?_ ?_; rotate_left 1; (· (intro j w' hj1 hj2 hS; go_simp; (try (simp only [↓IntWalk.iteOmega]; go_simp)); (try simp (disch := omega) only [IntWalk.i64_in]); try with_reducible rfl)); simp only [Act.put, List.setIfInBounds_toArray, List.set_cons_zero, List.set_cons_succ]) | (refine qs_skip (by rfl) ?_; simp only [Act.put, List.setIfInBounds_toArray, List.set_cons_zero, List.set_cons_succ])))
              refine qs_act ?_
              have hsn := HX.out.2.2.2.2.1
              go_wp2_with ((with_reducible show wpList _ _ _ (_ :: _) _ _); refine wpl_mput rfl 65 (.tmp 54) (.tmp 59) (.tmp 61) rfl keyed_int Tryz.underlying65 K9.out.map (by have := K9.out.klen; unfold maxLen; omega) rfl x.o.snap rfl (v9, viewN 20 f' M' 0) rfl (klI_inj _) (keyOf_kvI hsn) ?_; intro w10 hm hg; have M10 := Lib.hid hm; have G10 := Lib.hid hg; clear hm hg; simp only [Act.put, List.setIfInBounds_toArray, List.set_cons_zero, List.set_cons_succ])
              have K10 := Lib.hid (K9.out.put O9.out (view_B (by omega) K9.out.st.inv 0) (viewN_len _ _ _ _) M10.out G10.out)
              refine ⟨(HR.out _ K10.out.st.low) 3 _ rfl, ?_⟩
              refine qs_nil ?_
              go_wp2_with fail
              go_meet
              obtain ⟨hr, hk⟩ := HC.out
              exact ⟨rfl, _, K10.out, kept_snap K.out.st.inv (by rw [← hr]; exact HD.out) KK.out hk, fun _ h => absurd h (by omega)⟩
            case false =>
              have HC := Lib.hid (of_decide_eq_false HTB.out.symm)
              go_wp2_with fail
              go_meet
              exact ⟨rfl, KM, ⟨K8.out.st, K8.out.len, K8.out.map, K8.out.klo, K8.out.rows, Nat.le_succ_of_le K8.out.klen⟩, kept_same K.out.st.inv HD.out KK.out HC.out, fun hr hk => kept_back K.out.st.inv (by rw [← hr]; exact HD.out) KK.out hk⟩
        case rest =>
        obtain ⟨rfl, KM', hk', hkk', hbk⟩ := hcut
        have Kn := Lib.hid hk'
        have KKn := Lib.hid hkk'
        have HBk := Lib.hid hbk
        clear hk' hkk' hbk K8 R8 K KK HD ckind csnap
        have Rn := Lib.hid (HR.out _ Kn.out.st.low)
        have ckind : wc.cell? ⟨b, off + i * 6, none⟩ = some (.int .u8 x.o.kind) := by have := Rn.out 0 _ rfl; simpa using this
        have csnap : wc.cell? ⟨b, off + i * 6 + 3, none⟩ = some (.int .i64 x.o.snap) := Rn.out 3 _ rfl
        go_upto_region 16 with fail
        go_cut [84] (fun cv wx => cv = .bool false ∧ Below wc.heap.size wc wx)
        case first =>
          as_aux_lemma =>
            by_cases hr : r = 0
            · by_cases hk : x.o.kind = 5
              · have hkb : (x.o.kind == 5) = true := beq_iff_eq.2 hk
                obtain ⟨vk, hvk⟩ := HBk.out hr hk
                have HV := Lib.hid (show ((aget KM' x.o.snap).map veR).getD (.slice none 0 0) = vk by rw [hvk]; rfl)
                have HRow := Lib.hid (Kn.out.rows _ (aget_mem hvk))
                have hsn := HX.out.2.2.2.2.1
                subst hr
                clear hvk hk
                refine wp_region_qs (fun _ w' => (w'.cell? ⟨b, off + i * 6, none⟩ = some (.int .u8 x.o.kind) ∧ w'.cell? ⟨b, off + i * 6 + 3, none⟩ = some (.int .i64 x.o.snap)) ∧ MapIs Tryz.prog 3 kvI klI veR w' kb KM') [(0, some 2), (1, some 2), (2, some 2), (3, some 2), (4, some 2), (5, some 2), (6, some 2), (7, some 2), (8, some 2), (9, some 2), (10, some 0), (11, some 1), (13, some 2), (14, some 2), (15, some 2), (16, some 2), (17, some 2), (18, some 2), (19, some 1), (12, none), (20, none), (21, some 2), (22, some 2)] (by kernel_rfl) (by kernel_rfl) (by kernel_rfl) (by kernel_rfl) (by kernel_rfl) (fun _ _ _ _ _ h => h) ⟨⟨ckind, csnap⟩, Kn.out.map.drew⟩ ?_
                simp only [List.map_cons, List.map_nil, List.getD_cons_succ, List.getD_cons_zero]
                (repeat (first | ((refine qs_mlook (by rfl) 65 (.tmp 75) (.tmp 80) (by rfl) keyed_int Tryz.underlying65 (by rfl) x.o.snap (by rfl) Tryz.zeroValue41 (fun j w' _ _ h => h.2) (klI_inj _) (keyOf_kvI hsn) ?_; rewrite [HV.out]); simp only [Act.put, List.setIfInBounds_toArray, List.set_cons_zero, List.set_cons_succ]) | (refine qs_now (v := ?_) (by rfl) ?_ ?_; rotate_left 1; (· (intro w' hS; go_simp; (try (simp only [↓IntWalk.iteOmega]; go_simp)); (try simp (disch := omega) only [IntWalk.i64_in]); try with_reducible rfl)); simp only [Act.put, List.setIfInBounds_toArray, List.set_cons_zero, List.set_cons_succ]) | (refine qs_run (v := ?_) (by rfl) ?_ ?_; rotate_left 1; (· (intro j w' hS; go_simp; (try (simp only [↓IntWalk.iteOmega]; go_simp)); (try simp (disch := omega) only [IntWalk.i64_in]); try with_reducible rfl)); simp only [Act.put, List.setIfInBounds_toArray, List.set_cons_zero, List.set_cons_succ]) | (refine qs_mid (v := ?_) (by rfl) ?_ ?_; rotate_left 1; (· (intro j w' hj1 hj2 hS; go_simp; (try (simp only [↓IntWalk.iteOmega]; go_simp)); (try simp (disch := omega) only [IntWalk.i64_in]); try with_reducible rfl)); simp only [Act.put, List.setIfInBounds_toArray, List.set_cons_zero, List.set_cons_succ]) | (refine qs_skip (by rfl) ?_; simp only [Act.put, List.setIfInBounds_toArray, List.set_cons_zero, List.set_cons_succ])))
                refine qs_act ?_
                go_wp2_with (go_at_call 27; refine (view_any Kn.out.st.st.drew 0 20 (by omega) rfl).mono ?_; rintro e w9 ⟨v9, rfl, ho, hb⟩; have O9 := Lib.hid (own_loR ho Kn.out.st.low.size); have L9 := Lib.hid (below_chain (Below.refl _ wc).drew hb); clear ho hb)
                have K9 := Lib.hid (Kn.out.below L9.out)
                have R9 := Lib.hid (HR.out _ K9.out.st.low)
                refine ⟨⟨⟨by have := R9.out 0 _ rfl; simpa using this, R9.out 3 _ rfl⟩, K9.out.map⟩, ?_⟩
                (repeat (first | ((refine qs_mlook (by rfl) 65 (.tmp 75) (.tmp 80) (by rfl) keyed_int Tryz.underlying65 (by rfl) x.o.snap (by rfl) Tryz.zeroValue41 (fun j w' _ _ h => h.2) (klI_inj _) (keyOf_kvI hsn) ?_; rewrite [HV.out]); simp only [Act.put, List.setIfInBounds_toArray, List.set_cons_zero, List.set_cons_succ]) | (refine qs_now (v := ?_) (by rfl) ?_ ?_; rotate_left 1; (· (intro w' hS; go_simp; (try (simp only [↓IntWalk.iteOmega]; go_simp)); (try simp (disch := omega) only [IntWalk.i64_in]); try with_reducible rfl)); simp only [Act.put, List.setIfInBounds_toArray, List.set_cons_zero, List.set_cons_succ]) | (refine qs_run (v := ?_) (by rfl) ?_ ?_; rotate_left 1; (· (intro j w' hS; go_simp; (try (simp only [↓IntWalk.iteOmega]; go_simp)); (try simp (disch := omega) only [IntWalk.i64_in]); try with_reducible rfl)); simp only [Act.put, List.setIfInBounds_toArray, List.set_cons_zero, List.set_cons_succ]) | (refine qs_mid (v := ?_) (by rfl) ?_ ?_; rotate_left 1; (· (intro j w' hj1 hj2 hS; go_simp; (try (simp only [↓IntWalk.iteOmega]; go_simp)); (try simp (disch := omega) only [IntWalk.i64_in]); try with_reducible rfl)); simp only [Act.put, List.setIfInBounds_toArray, List.set_cons_zero, List.set_cons_succ]) | (refine qs_skip (by rfl) ?_; simp only [Act.put, List.setIfInBounds_toArray, List.set_cons_zero, List.set_cons_succ])))
                refine qs_act ?_
                go_wp2_with (go_at_call 18; refine (same_own (l := slIs 20 f' 0) O9.out (own_belowR HRow.out.1 L9.out) HRow.out.2.1 (by have := HRow.out.2.2; omega)).mono ?_; rintro e w10 ⟨rfl, hb⟩; have L10 := Lib.hid (below_chain L9.out hb); clear hb)
                have K10 := Lib.hid (Kn.out.below L10.out)
                have R10 := Lib.hid (HR.out _ K10.out.st.low)
                refine ⟨⟨⟨by have := R10.out 0 _ rfl; simpa using this, R10.out 3 _ rfl⟩, K10.out.map⟩, ?_⟩
                (repeat (first | (refine qs_now (v := ?_) (by rfl) ?_ ?_; rotate_left 1; (· (intro w' hS; go_simp; (try (simp only [↓IntWalk.iteOmega]; go_simp)); (try simp (disch := omega) only [IntWalk.i64_in]); try with_reducible rfl)); simp only [Act.put, List.setIfInBounds_toArray, List.set_cons_zero, List.set_cons_succ]) | (refine qs_run (v := ?_) (by rfl) ?_ ?_; rotate_left 1; (· (intro j w' hS; go_simp; (try (simp only [↓IntWalk.iteOmega]; go_simp)); (try simp (disch := omega) only [IntWalk.i64_in]); try with_reducible rfl)); simp only [Act.put, List.setIfInBounds_toArray, List.set_cons_zero, List.set_cons_succ]) | (refine qs_mid (v := ?_) (by rfl) ?_ ?_; rotate_left 1; (· (intro j w' hj1 hj2 hS; go_simp; (try (simp only [↓IntWalk.iteOmega]; go_simp)); (try simp (disch := omega) only [IntWalk.i64_in]); try with_reducible rfl)); simp only [Act.put, List.setIfInBounds_toArray, List.set_cons_zero, List.set_cons_succ]) | (refine qs_skip (by rfl) ?_; simp only [Act.put, List.setIfInBounds_toArray, List.set_cons_zero, List.set_cons_succ])))
                refine qs_nil ?_
                go_wp2_with fail
                go_meet
                exact ⟨rfl, L10.out⟩
              · have hkb : (x.o.kind == 5) = false := beq_eq_false_iff_ne.2 hk
                subst hr
                clear hk
                refine wp_region_qs (fun _ w' => w'.cell? ⟨b, off + i * 6, none⟩ = some (.int .u8 x.o.kind)) [(0, some 2), (1, some 2), (2, some 2), (3, some 2), (4, some 2), (5, some 2), (6, some 2), (7, some 2), (8, some 2), (9, some 2), (10, some 0), (11, some 1), (13, some 2), (14, some 2), (15, some 2), (16, some 2), (17, some 2), (18, some 2), (19, some 1), (12, none), (20, none), (21, some 2), (22, some 2)] (by kernel_rfl) (by kernel_rfl) (by kernel_rfl) (by kernel_rfl) (by kernel_rfl) (fun _ _ _ _ _ h => h) ckind ?_
                simp only [List.map_cons, List.map_nil, List.getD_cons_succ, List.getD_cons_zero]
                (repeat (first | (refine qs_now (v := ?_) (by rfl) ?_ ?_; rotate_left 1; (· (intro w' hS; go_simp; (try (simp only [↓IntWalk.iteOmega]; go_simp)); (try simp (disch := omega) only [IntWalk.i64_in]); try with_reducible rfl)); simp only [Act.put, List.setIfInBounds_toArray, List.set_cons_zero, List.set_cons_succ]) | (refine qs_run (v := ?_) (by rfl) ?_ ?_; rotate_left 1; (· (intro j w' hS; go_simp; (try (simp only [↓IntWalk.iteOmega]; go_simp)); (try simp (disch := omega) only [IntWalk.i64_in]); try with_reducible rfl)); simp only [Act.put, List.setIfInBounds_toArray, List.set_cons_zero, List.set_cons_succ]) | (refine qs_mid (v := ?_) (by rfl) ?_ ?_; rotate_left 1; (· (intro j w' hj1 hj2 hS; go_simp; (try (simp only [↓IntWalk.iteOmega]; go_simp)); (try simp (disch := omega) only [IntWalk.i64_in]); try with_reducible rfl)); simp only [Act.put, List.setIfInBounds_toArray, List.set_cons_zero, List.set_cons_succ]) | (refine qs_skip (by rfl) ?_; simp only [Act.put, List.setIfInBounds_toArray, List.set_cons_zero, List.set_cons_succ])))
                refine qs_act ?_
                go_wp2_with fail
                refine ⟨ckind, ?_⟩
                (repeat (first | (refine qs_now (v := ?_) (by rfl) ?_ ?_; rotate_left 1; (· (intro w' hS; go_simp; (try (simp only [↓IntWalk.iteOmega]; go_simp)); (try simp (disch := omega) only [IntWalk.i64_in]); try with_reducible rfl)); simp only [Act.put, List.setIfInBounds_toArray, List.set_cons_zero, List.set_cons_succ]) | (refine qs_run (v := ?_) (by rfl) ?_ ?_; rotate_left 1; (· (intro j w' hS; go_simp; (try (simp only [↓IntWalk.iteOmega]; go_simp)); (try simp (disch := omega) only [IntWalk.i64_in]); try with_reducible rfl)); simp only [Act.put, List.setIfInBounds_toArray, List.set_cons_zero, List.set_cons_succ]) | (refine qs_mid (v := ?_) (by rfl) ?_ ?_; rotate_left 1; (· (intro j w' hj1 hj2 hS; go_simp; (try (simp only [↓IntWalk.iteOmega]; go_simp)); (try simp (disch := omega) only [IntWalk.i64_in]); try with_reducible rfl)); simp only [Act.put, List.setIfInBounds_toArray, List.set_cons_zero, List.set_cons_succ]) | (refine qs_skip (by rfl) ?_; simp only [Act.put, List.setIfInBounds_toArray, List.set_cons_zero, List.set_cons_succ])))
                refine qs_nil ?_
                go_wp2_with fail
                go_meet
                exact ⟨rfl, (Below.refl _ _).drew⟩
            · have hrb : (r == 0) = false := beq_eq_false_iff_ne.2 hr
              have HNr := Lib.hid hr
              clear hr
              refine wp_region_qs (fun _ _ => True) [(0, some 2), (1, some 2), (2, some 2), (3, some 2), (4, some 2), (5, some 2), (6, some 2), (7, some 2), (8, some 2), (9, some 2), (10, some 0), (11, some 1), (13, some 2), (14, some 2), (15, some 2), (16, some 2), (17, some 2), (18, some 2), (19, some 1), (12, none), (20, none), (21, some 2), (22, some 2)] (by kernel_rfl) (by kernel_rfl) (by kernel_rfl) (by kernel_rfl) (by kernel_rfl) (fun _ _ _ _ _ h => h) trivial ?_
              simp only [List.map_cons, List.map_nil, List.getD_cons_succ, List.getD_cons_zero]
              (repeat (first | (refine qs_now (v := ?_) (by rfl) ?_ ?_; rotate_left 1; (· (intro w' hS; go_simp; (try (simp only [↓IntWalk.iteOmega]; go_simp)); (try simp (disch := omega) only [IntWalk.i64_in]); try with_reducible rfl)); simp only [Act.put, List.setIfInBounds_toArray, List.set_cons_zero, List.set_cons_succ]) | (refine qs_run (v := ?_) (by rfl) ?_ ?_; rotate_left 1; (· (intro j w' hS; go_simp; (try (simp only [↓IntWalk.iteOmega]; go_simp)); (try simp (disch := omega) only [IntWalk.i64_in]); try with_reducible rfl)); simp only [Act.put, List.setIfInBounds_toArray, List.set_cons_zero, List.set_cons_succ]) | (refine qs_mid (v := ?_) (by rfl) ?_ ?_; rotate_left 1; (· (intro j w' hj1 hj2 hS; go_simp; (try (simp only [↓IntWalk.iteOmega]; go_simp)); (try simp (disch := omega) only [IntWalk.i64_in]); try with_reducible rfl)); simp only [Act.put, List.setIfInBounds_toArray, List.set_cons_zero, List.set_cons_succ]) | (refine qs_skip (by rfl) ?_; simp only [Act.put, List.setIfInBounds_toArray, List.set_cons_zero, List.set_cons_succ])))
              refine qs_act ?_
              go_wp2_with fail
              refine ⟨trivial, ?_⟩
              (repeat (first | (refine qs_now (v := ?_) (by rfl) ?_ ?_; rotate_left 1; (· (intro w' hS; go_simp; (try (simp only [↓IntWalk.iteOmega]; go_simp)); (try simp (disch := omega) only [IntWalk.i64_in]); try with_reducible rfl)); simp only [Act.put, List.setIfInBounds_toArray, List.set_cons_zero, List.set_cons_succ]) | (refine qs_run (v := ?_) (by rfl) ?_ ?_; rotate_left 1; (· (intro j w' hS; go_simp; (try (simp only [↓IntWalk.iteOmega]; go_simp)); (try simp (disch := omega) only [IntWalk.i64_in]); try with_reducible rfl)); simp only [Act.put, List.setIfInBounds_toArray, List.set_cons_zero, List.set_cons_succ]) | (refine qs_mid (v := ?_) (by rfl) ?_ ?_; rotate_left 1; (· (intro j w' hj1 hj2 hS; go_simp; (try (simp only [↓IntWalk.iteOmega]; go_simp)); (try simp (disch := omega) only [IntWalk.i64_in]); try with_reducible rfl)); simp only [Act.put, List.setIfInBounds_toArray, List.set_cons_zero, List.set_cons_succ]) | (refine qs_skip (by rfl) ?_; simp only [Act.put, List.setIfInBounds_toArray, List.set_cons_zero, List.set_cons_succ])))
              refine qs_act ?_
              go_wp2_with fail
              refine ⟨trivial, ?_⟩
              (repeat (first | (refine qs_now (v := ?_) (by rfl) ?_ ?_; rotate_left 1; (· (intro w' hS; go_simp; (try (simp only [↓IntWalk.iteOmega]; go_simp)); (try simp (disch := omega) only [IntWalk.i64_in]); try with_reducible rfl)); simp only [Act.put, List.setIfInBounds_toArray, List.set_cons_zero, List.set_cons_succ]) | (refine qs_run (v := ?_) (by rfl) ?_ ?_; rotate_left 1; (· (intro j w' hS; go_simp; (try (simp only [↓IntWalk.iteOmega]; go_simp)); (try simp (disch := omega) only [IntWalk.i64_in]); try with_reducible rfl)); simp only [Act.put, List.setIfInBounds_toArray, List.set_cons_zero, List.set_cons_succ]) | (refine qs_mid (v := ?_) (by rfl) ?_ ?_; rotate_left 1; (· (intro j w' hj1 hj2 hS; go_simp; (try (simp only [↓IntWalk.iteOmega]; go_simp)); (try simp (disch := omega) only [IntWalk.i64_in]); try with_reducible rfl)); simp only [Act.put, List.setIfInBounds_toArray, List.set_cons_zero, List.set_cons_succ]) | (refine qs_skip (by rfl) ?_; simp only [Act.put, List.setIfInBounds_toArray, List.set_cons_zero, List.set_cons_succ])))
              refine qs_nil ?_
              go_wp2_with fail
              go_meet
              exact ⟨rfl, (Below.refl _ _).drew⟩
        case rest =>
        obtain ⟨rfl, hb⟩ := hcut
        have Ko := Lib.hid (Kn.out.below hb)
        clear hb Kn Rn HBk ckind csnap HR HX HXl HOf
        go_upto_region 20 with (first
          | (go_at_call 26; refine (st_maps Ko.out.st.st).mono ?_; rintro e w10 ⟨rfl, rfl⟩)
          | (go_at_call 28; refine (ids_any Ko.out.st.st.maps (by have := Ko.out.st.inv.len; omega)).mono ?_; rintro e w11 ⟨v11, rfl, ho, _, hb⟩; have K11 := Lib.hid (Ko.out.below hb); obtain ⟨A4, c4, rfl, _⟩ := own_slice ho; have O11 := Lib.hid ho; clear ho hb))
        have HIl := Lib.hid (sIds_len M')
        have hml : M'.length ≤ 8 := K11.out.st.inv.len
        go_loopg [9] M'.length (fun k kv wr' => ∃ q : Nat, kv = .int .i64 (q : Int) ∧ q ≤ M'.length ∧ q + k ≤ M'.length ∧ M'.length ≤ q + k ∧ Below w11.heap.size w11 wr')
        case atStart => exact ⟨0, rfl, by omega, by omega, by omega, Below.refl _ _⟩
        case round =>
          obtain ⟨q, rfl, q1, q2, q3, hb⟩ := hrel
          have LQ := Lib.hid hb
          have KQ := Lib.hid (K11.out.below hb)
          have OQ := Lib.hid (own_belowR O11.out hb)
          clear hb
          by_cases hq : q < M'.length
          · have hqI : (q : Int) < (M'.length : Int) := by omega
            obtain ⟨g4, c5, e4, _, _⟩ := OQ.out.form (by omega)
            injection e4 with e4 _ e5
            subst e4 e5
            have hql : q < (sIds M').length := by rw [HIl.out]; exact hq
            have cid0 := own_int_cell OQ.out hql
            have hmem : (sIds M')[q] ∈ sIds M' := List.getElem_mem hql
            obtain ⟨vk, hvk⟩ := kept_at KKn.out (n := 0) KQ.out.st.inv hmem
            have hrg := sIds_range KQ.out.st.inv hmem
            generalize (sIds M')[q] = id at cid0 hvk hrg hmem
            have HCid := Lib.hid (show ∀ W, Below wr.heap.size wr W → W.cell? ⟨g4, q, none⟩ = some (.int .i64 id) from fun W hW => (World.cell?_of_block (a := ⟨g4, q, none⟩) (hW.block g4 (block_lt_of_cell cid0))).trans cid0)
            have HV := Lib.hid (show ((aget KM' id).map veR).getD (.slice none 0 0) = vk by rw [hvk]; rfl)
            have HRow := Lib.hid (KQ.out.rows _ (aget_mem hvk))
            have HIr := Lib.hid (show -9223372036854775808 ≤ id ∧ id ≤ 9223372036854775807 by omega)
            clear hvk hrg hmem cid0
            go_upto_region 22 with fail
            refine wp_region_qs (fun _ w' => w'.cell? ⟨g4, q, none⟩ = some (.int .i64 id) ∧ MapIs Tryz.prog 3 kvI klI veR w' kb KM') [(0, some 1), (1, some 2), (2, some 2), (3, some 2), (4, some 1), (6, some 2), (7, some 2), (8, some 2), (9, some 2), (10, some 2), (11, some 1), (5, none), (12, none), (13, some 2)] (by kernel_rfl) (by kernel_rfl) (by kernel_rfl) (by kernel_rfl) (by kernel_rfl) (fun _ _ _ _ _ h => h) ⟨HCid.out _ (Below.refl _ _).drew, KQ.out.map.drew⟩ ?_
            simp only [List.map_cons, List.map_nil, List.getD_cons_succ, List.getD_cons_zero]
            (repeat (first | ((refine qs_mlook (by rfl) 65 (.tmp 100) (.tmp 104) (by rfl) keyed_int Tryz.underlying65 (by rfl) id (by rfl) Tryz.zeroValue41 (fun j w' _ _ h => h.2) (klI_inj _) (keyOf_kvI HIr.out) ?_; rewrite [HV.out]); simp only [Act.put, List.setIfInBounds_toArray, List.set_cons_zero, List.set_cons_succ]) | (refine qs_now (v := ?_) (by rfl) ?_ ?_; rotate_left 1; (· (intro w' hS; go_simp; (try (simp only [↓IntWalk.iteOmega]; go_simp)); (try simp (disch := omega) only [IntWalk.i64_in]); try with_reducible rfl)); simp only [Act.put, List.setIfInBounds_toArray, List.set_cons_zero, List.set_cons_succ]) | (refine qs_run (v := ?_) (by rfl) ?_ ?_; rotate_left 1; (· (intro j w' hS; go_simp; (try (simp only [↓IntWalk.iteOmega]; go_simp)); (try simp (disch := omega) only [IntWalk.i64_in]); try with_reducible rfl)); simp only [Act.put, List.setIfInBounds_toArray, List.set_cons_zero, List.set_cons_succ]) | (refine qs_mid (v := ?_) (by rfl) ?_ ?_; rotate_left 1; (· (intro j w' hj1 hj2 hS; go_simp; (try (simp only [↓IntWalk.iteOmega]; go_simp)); (try simp (disch := omega) only [IntWalk.i64_in]); try with_reducible rfl)); simp only [Act.put, List.setIfInBounds_toArray, List.set_cons_zero, List.set_cons_succ]) | (refine qs_skip (by rfl) ?_; simp only [Act.put, List.setIfInBounds_toArray, List.set_cons_zero, List.set_cons_succ])))
            refine qs_act ?_
            go_wp2_with (go_at_call 27; refine (view_any KQ.out.st.st.drew id 20 HIr.out rfl).mono ?_; rintro e w13 ⟨v13, rfl, ho, hb⟩; have O13 := Lib.hid (own_loR ho KQ.out.st.low.size); have L13 := Lib.hid (below_chain (Below.refl _ wr).drew hb); clear ho hb)
            have K13 := Lib.hid (KQ.out.below L13.out)
            refine ⟨⟨HCid.out _ L13.out, K13.out.map⟩, ?_⟩
            (repeat (first | ((refine qs_mlook (by rfl) 65 (.tmp 100) (.tmp 104) (by rfl) keyed_int Tryz.underlying65 (by rfl) id (by rfl) Tryz.zeroValue41 (fun j w' _ _ h => h.2) (klI_inj _) (keyOf_kvI HIr.out) ?_; rewrite [HV.out]); simp only [Act.put, List.setIfInBounds_toArray, List.set_cons_zero, List.set_cons_succ]) | (refine qs_now (v := ?_) (by rfl) ?_ ?_; rotate_left 1; (· (intro w' hS; go_simp; (try (simp only [↓IntWalk.iteOmega]; go_simp)); (try simp (disch := omega) only [IntWalk.i64_in]); try with_reducible rfl)); simp only [Act.put, List.setIfInBounds_toArray, List.set_cons_zero, List.set_cons_succ]) | (refine qs_run (v := ?_) (by rfl) ?_ ?_; rotate_left 1; (· (intro j w' hS; go_simp; (try (simp only [↓IntWalk.iteOmega]; go_simp)); (try simp (disch := omega) only [IntWalk.i64_in]); try with_reducible rfl)); simp only [Act.put, List.setIfInBounds_toArray, List.set_cons_zero, List.set_cons_succ]) | (refine qs_mid (v := ?_) (by rfl) ?_ ?_; rotate_left 1; (· (intro j w' hj1 hj2 hS; go_simp; (try (simp only [↓IntWalk.iteOmega]; go_simp)); (try simp (disch := omega) only [IntWalk.i64_in]); try with_reducible rfl)); simp only [Act.put, List.setIfInBounds_toArray, List.set_cons_zero, List.set_cons_succ]) | (refine qs_skip (by rfl) ?_; simp only [Act.put, List.setIfInBounds_toArray, List.set_cons_zero, List.set_cons_succ])))
            refine qs_act ?_
            go_wp2_with (go_at_call 18; refine (same_own (l := viewN 20 f' M' id) O13.out (own_belowR HRow.out.1 L13.out) HRow.out.2.1 (by have := HRow.out.2.2; omega)).mono ?_; rintro e w14 ⟨rfl, hb⟩; have L14 := Lib.hid (below_chain L13.out hb); clear hb)
            have K14 := Lib.hid (KQ.out.below L14.out)
            refine ⟨⟨HCid.out _ L14.out, K14.out.map⟩, ?_⟩
            (repeat (first | (refine qs_now (v := ?_) (by rfl) ?_ ?_; rotate_left 1; (· (intro w' hS; go_simp; (try (simp only [↓IntWalk.iteOmega]; go_simp)); (try simp (disch := omega) only [IntWalk.i64_in]); try with_reducible rfl)); simp only [Act.put, List.setIfInBounds_toArray, List.set_cons_zero, List.set_cons_succ]) | (refine qs_run (v := ?_) (by rfl) ?_ ?_; rotate_left 1; (· (intro j w' hS; go_simp; (try (simp only [↓IntWalk.iteOmega]; go_simp)); (try simp (disch := omega) only [IntWalk.i64_in]); try with_reducible rfl)); simp only [Act.put, List.setIfInBounds_toArray, List.set_cons_zero, List.set_cons_succ]) | (refine qs_mid (v := ?_) (by rfl) ?_ ?_; rotate_left 1; (· (intro j w' hj1 hj2 hS; go_simp; (try (simp only [↓IntWalk.iteOmega]; go_simp)); (try simp (disch := omega) only [IntWalk.i64_in]); try with_reducible rfl)); simp only [Act.put, List.setIfInBounds_toArray, List.set_cons_zero, List.set_cons_succ]) | (refine qs_skip (by rfl) ?_; simp only [Act.put, List.setIfInBounds_toArray, List.set_cons_zero, List.set_cons_succ])))
            refine qs_nil ?_
            go_wp2_with fail
            go_roundg (gk - 1)
            case measure => omega
            case rel => exact ⟨q + 1, by congr 1, by omega, by omega, by omega, below_chain LQ.out L14.out⟩
          · have hqI : ¬ (q : Int) < (M'.length : Int) := by omega
            have hmm := @run_makeMap Tryz.prog
            go_upto_region 25 with fail
            obtain ⟨wq, hwq⟩ : ∃ v, v = wr := ⟨_, rfl⟩
            have KW := Lib.hid (show KpI w si xi bx mi bs kb (i + 1) (i + 1) E' f' M' KM' wq by rw [hwq]; exact KQ.out)
            rw [← hwq]
            obtain ⟨w15, hw15⟩ : ∃ v, v = wq.alloc (Obj.map #[] 0) := ⟨_, rfl⟩
            have L15 := Lib.hid (show Below wq.heap.size wq w15 by rw [hw15]; exact (Below.refl _ _).alloc (Nat.le_refl _) _)
            have MC15 := Lib.hid (show MapIs Tryz.prog 50 vKey klK (Value.int .i64) w15 wq.heap.size ([] : SuM) by rw [hw15]; exact MapIs.made wq _ _ _ _ _)
            rw [← hw15]
            clear hw15 hmm hwq LQ KQ OQ K11 O11 Ko
            have HAll := Lib.hid (stItems_len (show 20 ≤ 512 by omega) KW.out.st.inv)
            have HE1 := Lib.hid (show E'.length ≤ 800 by have := KW.out.len; omega)
            go_upto_region 27 with (go_at_call 19; refine (st_items (KW.out.st.below L15.out).st (by have := HE1.out; omega) KW.out.st.inv.idsOk).mono ?_; rintro e w16 ⟨v16, rfl, ho, hb⟩; obtain ⟨A6, c6, rfl, _⟩ := own_slice ho; have O16 := Lib.hid (own_loR ho L15.out.size); have L16 := Lib.hid (below_chain L15.out hb); have MC16 := Lib.hid (MC15.out.below hb MC15.out.lt); clear ho hb)
            obtain ⟨l, hl⟩ : ∃ l, l = stItems 20 E' f' M' := ⟨_, rfl⟩
            rw [← hl] at O16 HAll
            rw [← hl]
            have HLdef := Lib.hid hl
            have hll : l.length ≤ 6000 := by have h1 := HAll.out; have h2 := HE1.out; omega
            clear hl MC15 L15
            go_loopg [12] l.length (fun k kv wr => ∃ q : Nat, kv = .int .i64 (q : Int) ∧ q ≤ l.length ∧ q + k ≤ l.length ∧ l.length ≤ q + k ∧ MapIs Tryz.prog 50 vKey klK (Value.int .i64) wr wq.heap.size (sumF (cntL (l.take q))) ∧ wr.ownsRow wq.heap.size 56 73 (.slice A6 l.length c6) l.length (itsC l) ∧ Below wq.heap.size wq wr)
            case atStart => exact ⟨0, rfl, by omega, by omega, by omega, MC16.out, O16.out, L16.out⟩
            case round =>
              obtain ⟨q, rfl, q1, q2, q3, hm, ho, hb⟩ := hrel
              have MQ := Lib.hid hm
              have OQ := Lib.hid ho
              have LQ := Lib.hid hb
              clear hm ho hb MC16 O16 L16
              by_cases hq : q < l.length
              · have hqI : (q : Int) < (l.length : Int) := by omega
                obtain ⟨b6, off6, hA6, hr6⟩ := src_part itC_len (Src.of_own OQ.out) rfl hq
                have HTk := Lib.hid (cntL_take hq)
                generalize l[q] = y at hr6 HTk
                subst hA6
                have ck : wr.cell? ⟨b6, off6 + q * 73, none⟩ = some (.int .u8 y.kind) := by have := hr6 0 _ rfl; simpa using this
                have Q := Lib.hid (show wr.rangeAt b6 (off6 + q * 73 + 39) (keyL y.sl.key) from fun j v hv => by
                  have h1 : (itC y)[39 + j]? = some v := by
                    have h2 := itC_slkey y
                    rw [← h2, List.getElem?_take] at hv
                    split at hv
                    · rw [List.getElem?_drop] at hv; exact hv
                    · cases hv
                  have := hr6 (39 + j) v h1
                  rw [← Nat.add_assoc] at this
                  exact this)
                have hb6 : b6 < wr.heap.size := block_lt_of_cell ck
                have hne : b6 ≠ wq.heap.size := by
                  intro e
                  obtain ⟨cs, hcs⟩ := own_obj OQ.out (b := b6) rfl
                  obtain ⟨es, c, hm⟩ := MQ.out.obj
                  rw [← e, hcs] at hm
                  cases hm
                have HOwn := Lib.hid (show ∀ W : World, W.heap[b6]? = wr.heap[b6]? → W.ownsRow wq.heap.size 56 73 (.slice (some ⟨b6, off6, none⟩) l.length c6) l.length (itsC l) ∧ W.rangeAt b6 (off6 + q * 73 + 39) (keyL y.sl.key) from fun W hW =>
                  ⟨own_same OQ.out (fun k hk => by injection hk with hk; simp only at hk; subst hk; exact hW), fun j v hv => (World.cell?_of_block (a := ⟨b6, off6 + q * 73 + 39 + j, none⟩) hW).trans (Q.out j v hv)⟩)
                have HNe := Lib.hid hne
                clear hne
                by_cases hk : y.kind = 2
                · have hk2 : (y.kind == 2) = true := beq_iff_eq.2 hk
                  have HTk2 := Lib.hid (show cntL (l.take (q + 1)) = cntL (l.take q) ++ [(y.sl.key, 1)] by rw [HTk.out, hk2]; rfl)
                  have HF := Lib.hid (sumF_facts 1 (cntL (l.take q)) (cntL_one _))
                  have hlen : (cntL (l.take q)).length ≤ q := by have := cntL_len (l.take q); rw [List.length_take] at this; omega
                  have HN := Lib.hid (show (sumF (cntL (l.take q))).length < maxLen by have := HF.out.1; unfold maxLen; omega)
                  obtain ⟨m0, hm0⟩ : ∃ m, m = valF (sumF (cntL (l.take q))) y.sl.key := ⟨_, rfl⟩
                  have hmb : -100000000 ≤ m0 ∧ m0 ≤ 100000000 := by have := HF.out.2 y.sl.key; rw [hm0]; omega
                  obtain ⟨hmb1, hmb2⟩ := hmb
                  have HM0 := Lib.hid hm0
                  clear hk hlen hm0
                  go_upto_region 30 with fail
                  refine wp_region_qs (fun j0 w' => j0 ≤ 1 → (∃ M : SuM, MapIs Tryz.prog 50 vKey klK (Value.int .i64) w' wq.heap.size M ∧ valF M y.sl.key = m0) ∧ w'.rangeAt b6 (off6 + q * 73 + 39) (keyL y.sl.key)) [(0, some 0), (1, some 0), (2, some 0), (3, some 0), (4, some 0), (5, some 0), (6, some 0), (7, some 1), (8, some 1), (9, none), (10, some 1), (11, none)] (by kernel_rfl) (by kernel_rfl) (by kernel_rfl) (by kernel_rfl) (by kernel_rfl) (fun _ _ _ _ _ h => h) (fun _ => ⟨⟨_, MQ.out.drew, HM0.out.symm⟩, Q.out⟩) ?_
                  simp only [List.map_cons, List.map_nil, List.getD_cons_succ, List.getD_cons_zero]
                  (repeat (first | ((first | (refine qs_row (by rfl) 50 (.tmp 128) rfl b6 (off6 + q * 73 + 39) rfl (keyL y.sl.key) _ (fun j w' _ h2 h => (h (by omega)).2) Tryz.underlying50 rfl (keyL_info _) ?_) | (refine qs_sum (by rfl) 69 (.tmp 123) (.tmp 129) rfl Tryz.underlying69 rfl y.sl.key rfl m0 (fun j w' _ h2 h => (h (by omega)).1) ?_)); simp only [Act.put, List.setIfInBounds_toArray, List.set_cons_zero, List.set_cons_succ]) | (refine qs_now (v := ?_) (by rfl) ?_ ?_; rotate_left 1; (· (intro w' hS; go_simp; (try (simp only [↓IntWalk.iteOmega]; go_simp)); (try simp (disch := omega) only [IntWalk.i64_in]); try with_reducible rfl)); simp only [Act.put, List.setIfInBounds_toArray, List.set_cons_zero, List.set_cons_succ]) | (refine qs_run (v := ?_) (by rfl) ?_ ?_; rotate_left 1; (· (intro j w' hS; go_simp; (try (simp only [↓IntWalk.iteOmega]; go_simp)); (try simp (disch := omega) only [IntWalk.i64_in]); try with_reducible rfl)); simp only [Act.put, List.setIfInBounds_toArray, List.set_cons_zero, List.set_cons_succ]) | (refine qs_mid (v := ?_) (by rfl) ?_ ?_; rotate_left 1; (· (intro j w' hj1 hj2 hS; go_simp; (try (simp only [↓IntWalk.iteOmega]; go_simp)); (try simp (disch := omega) only [IntWalk.i64_in]); try with_reducible rfl)); simp only [Act.put, List.setIfInBounds_toArray, List.set_cons_zero, List.set_cons_succ]) | (refine qs_skip (by rfl) ?_; simp only [Act.put, List.setIfInBounds_toArray, List.set_cons_zero, List.set_cons_succ])))
                  refine qs_act ?_
                  go_wp2_with ((with_reducible show wpList _ _ _ (_ :: _) _ _); refine wpl_mentry2 rfl 69 (.tmp 123) (.tmp 129) rfl keyed_key keyLaw_key Tryz.underlying69 MQ.out.drew HN.out rfl y.sl.key rfl Tryz.zeroValue3 (klK_inj' _) (keyOf_key _) 0 rfl ?_; intro v0 st w3 hg hm hst; have G3 := Lib.hid hg; have M3 := Lib.hid hm; have ST := Lib.hid hst; clear hg hm hst; simp only [Act.put, List.setIfInBounds_toArray, List.set_cons_zero, List.set_cons_succ])
                  have hB3 := Lib.hid (show w3.heap[b6]? = wr.heap[b6]? from G3.out.block b6 hb6 (by simpa using HNe.out))
                  have K3 := Lib.hid (HOwn.out w3 hB3.out)
                  have L3 := Lib.hid (show Below wq.heap.size wq w3 from bl_g LQ.out.drew G3.out (Nat.le_refl _))
                  have hv : valF (aput (sumF (cntL (l.take q))) y.sl.key ((aget (sumF (cntL (l.take q))) y.sl.key).getD 0)) y.sl.key = m0 := by
                    unfold valF
                    rw [aget_put, if_pos rfl]
                    exact HM0.out.symm
                  have HV := Lib.hid hv
                  clear hv
                  refine ⟨fun _ => ⟨⟨_, M3.out, HV.out⟩, K3.out.2⟩, ?_⟩
                  (repeat (first | (refine qs_now (v := ?_) (by rfl) ?_ ?_; rotate_left 1; (· (intro w' hS; go_simp; (try (simp only [↓IntWalk.iteOmega]; go_simp)); (try simp (disch := omega) only [IntWalk.i64_in]); try with_reducible rfl)); simp only [Act.put, List.setIfInBounds_toArray, List.set_cons_zero, List.set_cons_succ]) | (refine qs_run (v := ?_) (by rfl) ?_ ?_; rotate_left 1; (· (intro j w' hS; go_simp; (try (simp only [↓IntWalk.iteOmega]; go_simp)); (try simp (disch := omega) only [IntWalk.i64_in]); try with_reducible rfl)); simp only [Act.put, List.setIfInBounds_toArray, List.set_cons_zero, List.set_cons_succ]) | (refine qs_mid (v := ?_) (by rfl) ?_ ?_; rotate_left 1; (· (intro j w' hj1 hj2 hS; go_simp; (try (simp only [↓IntWalk.iteOmega]; go_simp)); (try simp (disch := omega) only [IntWalk.i64_in]); try with_reducible rfl)); simp only [Act.put, List.setIfInBounds_toArray, List.set_cons_zero, List.set_cons_succ]) | (refine qs_skip (by rfl) ?_; simp only [Act.put, List.setIfInBounds_toArray, List.set_cons_zero, List.set_cons_succ])))
                  refine qs_act ?_
                  go_wp2_with ((with_reducible show wpList _ _ _ (_ :: _) _ _); refine wpl_mestore rfl 69 (.tmp 123) (.tmp 133) (.tmp 131) rfl (m0 + 1) rfl rfl rfl ST.out ?_; intro w4 hm hg; have M4 := Lib.hid hm; have G4 := Lib.hid hg; clear hm hg; simp only [Act.put, List.setIfInBounds_toArray, List.set_cons_zero, List.set_cons_succ])
                  refine ⟨fun h => absurd h (by omega), ?_⟩
                  refine qs_nil ?_
                  go_wp2_with fail
                  go_roundg (gk - 1)
                  case measure => omega
                  case rel =>
                    refine ⟨q + 1, by congr 1, by omega, by omega, by omega, ?_, ?_, bl_g L3.out G4.out (Nat.le_refl _)⟩
                    · rw [HTk2.out, sumF_snoc]
                      unfold addS
                      rw [← HM0.out]
                      exact M4.out
                    · exact (HOwn.out w4 ((G4.out.block b6 (Nat.lt_of_lt_of_le hb6 G3.out.size) (by simpa using HNe.out)).trans hB3.out)).1
                · have hk2 : (y.kind == 2) = false := beq_eq_false_iff_ne.2 hk
                  have HTk2 := Lib.hid (show cntL (l.take (q + 1)) = cntL (l.take q) by rw [HTk.out, hk2]; simp)
                  clear hk
                  go_wp2_with fail
                  go_roundg (gk - 1)
                  case measure => omega
                  case rel => exact ⟨q + 1, by congr 1, by omega, by omega, by omega, by rw [HTk2.out]; exact MQ.out, OQ.out, LQ.out⟩
              · have hqI : ¬ (q : Int) < (l.length : Int) := by omega
                have HS := Lib.hid (show MapIs Tryz.prog 50 vKey klK (Value.int .i64) wr wq.heap.size (cntM l) by have := MQ.out; rw [List.take_of_length_le (by omega)] at this; exact this)
                have OF := Lib.hid OQ.out
                have LF := Lib.hid LQ.out
                clear MQ OQ LQ
                go_upto_region 32 with fail
                obtain ⟨wz, hwz⟩ : ∃ v, v = wr := ⟨_, rfl⟩
                rw [← hwz]
                rw [← hwz] at HS OF LF
                clear hwz
                go_loopg [13] l.length (fun k kv wr => ∃ q : Nat, kv = .int .i64 (q : Int) ∧ q ≤ l.length ∧ q + k ≤ l.length ∧ l.length ≤ q + k ∧ Below wz.heap.size wz wr)
                case atStart => exact ⟨0, rfl, by omega, by omega, by omega, Below.refl _ _⟩
                case round =>
                  obtain ⟨q, rfl, q1, q2, q3, hb⟩ := hrel
                  have LQ := Lib.hid hb
                  have OQ := Lib.hid (own_belowR OF.out hb)
                  have MQ := Lib.hid (HS.out.below hb HS.out.lt)
                  clear hb
                  by_cases hq : q < l.length
                  · have hqI : (q : Int) < (l.length : Int) := by omega
                    obtain ⟨b6, off6, hA6, hr6⟩ := src_part itC_len (Src.of_own OQ.out) rfl hq
                    have HMem := Lib.hid (show l[q] ∈ stItems 20 E' f' M' by rw [← HLdef.out]; exact List.getElem_mem hq)
                    generalize l[q] = y at hr6 HMem
                    subst hA6
                    have ck : wr.cell? ⟨b6, off6 + q * 73, none⟩ = some (.int .u8 y.kind) := by have := hr6 0 _ rfl; simpa using this
                    have cr : wr.cell? ⟨b6, off6 + q * 73 + 33 + 3, none⟩ = some (.int .i64 y.pl.ref) := by
                      have := hr6 36 (.int .i64 y.pl.ref) (itC_ref y)
                      rw [Nat.add_assoc]
                      exact this
                    have Q := Lib.hid (show wr.rangeAt b6 (off6 + q * 73 + 1) (keyL y.key) from fun j v hv => by
                      have h1 : (itC y)[1 + j]? = some v := by
                        rw [← itC_key y, List.getElem?_take] at hv
                        split at hv
                        · rw [List.getElem?_drop] at hv; exact hv
                        · cases hv
                      have := hr6 (1 + j) v h1
                      rw [← Nat.add_assoc] at this
                      exact this)
                    obtain ⟨m0, hm0⟩ : ∃ m, m = valF (cntM l) y.key := ⟨_, rfl⟩
                    have HM0 := Lib.hid hm0
                    clear hm0 hr6
                    by_cases hk : y.kind = 1
                    · have hk2 : (y.kind == 1) = true := beq_iff_eq.2 hk
                      obtain ⟨p, hp, hyp⟩ : ∃ p ∈ E', y = exIt p := by
                        rcases List.mem_append.1 HMem.out with h | h
                        · exact xItems_mem.1 h
                        · exact absurd hk (mItems_kind h)
                      have hrf := KW.out.st.inv.ref p.1 p.2 (aget_mem_some KW.out.st.inv.uniq hp)
                      have hval : y.pl.ref = m0 := by
                        rw [HM0.out, cntM_val, HLdef.out, cnt_stItems, hyp]
                        exact hrf.1
                      have hpos : y.pl.ref ≠ 0 := by rw [hyp]; show p.2.ref ≠ 0; omega
                      have e1 : (y.pl.ref != m0) = false := by simp [hval]
                      have e2 : (y.pl.ref == 0) = false := beq_eq_false_iff_ne.2 hpos
                      clear hk hyp hrf hval hpos
                      go_upto_region 34 with fail
                      refine wp_region_qs (fun _ w' => (w'.cell? ⟨b6, off6 + q * 73, none⟩ = some (.int .u8 y.kind) ∧ w'.cell? ⟨b6, off6 + q * 73 + 33 + 3, none⟩ = some (.int .i64 y.pl.ref)) ∧ w'.rangeAt b6 (off6 + q * 73 + 1) (keyL y.key) ∧ MapIs Tryz.prog 50 vKey klK (Value.int .i64) w' wq.heap.size (cntM l)) [(0, some 0), (1, some 0), (2, some 0), (3, some 0), (4, some 0), (5, some 0), (6, some 0), (7, some 0), (8, some 0), (9, some 0), (10, some 0), (11, some 0), (12, some 0), (13, some 0), (14, some 0), (15, some 0), (16, some 0), (17, some 0), (18, some 0), (19, some 0), (20, some 0), (21, some 0), (22, some 0), (23, some 0), (24, some 0), (25, some 0), (26, some 0), (27, some 0), (28, some 0), (29, some 0), (30, some 0)] (by kernel_rfl) (by kernel_rfl) (by kernel_rfl) (by kernel_rfl) (by kernel_rfl) (fun _ _ _ _ _ h => h) ⟨⟨ck, cr⟩, Q.out, MQ.out.drew⟩ ?_
                      simp only [List.map_cons, List.map_nil, List.getD_cons_succ, List.getD_cons_zero]
                      (repeat (first | ((first | (refine qs_row (by rfl) 50 (.tmp 157) rfl b6 (off6 + q * 73 + 1) rfl (keyL y.key) _ (fun j w' _ h2 h => h.2.1) Tryz.underlying50 rfl (keyL_info _) ?_) | (refine qs_sum (by rfl) 69 (.tmp 153) (.tmp 158) rfl Tryz.underlying69 rfl y.key rfl m0 (fun j w' _ h2 h => ⟨_, h.2.2, HM0.out.symm⟩) ?_)); simp only [Act.put, List.setIfInBounds_toArray, List.set_cons_zero, List.set_cons_succ]) | (refine qs_now (v := ?_) (by rfl) ?_ ?_; rotate_left 1; (· (intro w' hS; go_simp; (try (simp only [↓IntWalk.iteOmega]; go_simp)); (try simp (disch := omega) only [IntWalk.i64_in]); try with_reducible rfl)); simp only [Act.put, List.setIfInBounds_toArray, List.set_cons_zero, List.set_cons_succ]) | (refine qs_run (v := ?_) (by rfl) ?_ ?_; rotate_left 1; (· (intro j w' hS; go_simp; (try (simp only [↓IntWalk.iteOmega]; go_simp)); (try simp (disch := omega) only [IntWalk.i64_in]); try with_reducible rfl)); simp only [Act.put, List.setIfInBounds_toArray, List.set_cons_zero, List.set_cons_succ]) | (refine qs_mid (v := ?_) (by rfl) ?_ ?_; rotate_left 1; (· (intro j w' hj1 hj2 hS; go_simp; (try (simp only [↓IntWalk.iteOmega]; go_simp)); (try simp (disch := omega) only [IntWalk.i64_in]); try with_reducible rfl)); simp only [Act.put, List.setIfInBounds_toArray, List.set_cons_zero, List.set_cons_succ]) | (refine qs_skip (by rfl) ?_; simp only [Act.put, List.setIfInBounds_toArray, List.set_cons_zero, List.set_cons_succ])))
                      refine qs_nil ?_
                      go_wp2_with fail
                      go_roundg (gk - 1)
                      case measure => omega
                      case rel => exact ⟨q + 1, by congr 1, by omega, by omega, by omega, LQ.out.drew⟩
                    · have hk2 : (y.kind == 1) = false := beq_eq_false_iff_ne.2 hk
                      clear hk
                      go_upto_region 34 with fail
                      refine wp_region_qs (fun _ w' => w'.cell? ⟨b6, off6 + q * 73, none⟩ = some (.int .u8 y.kind)) [(0, some 0), (1, some 0), (2, some 0), (3, some 0), (4, some 0), (5, some 0), (6, some 0), (7, some 0), (8, some 0), (9, some 0), (10, some 0), (11, some 0), (12, some 0), (13, some 0), (14, some 0), (15, some 0), (16, some 0), (17, some 0), (18, some 0), (19, some 0), (20, some 0), (21, some 0), (22, some 0), (23, some 0), (24, some 0), (25, some 0), (26, some 0), (27, some 0), (28, some 0), (29, some 0), (30, some 0)] (by kernel_rfl) (by kernel_rfl) (by kernel_rfl) (by kernel_rfl) (by kernel_rfl) (fun _ _ _ _ _ h => h) ck ?_
                      simp only [List.map_cons, List.map_nil, List.getD_cons_succ, List.getD_cons_zero]
                      (repeat (first | (refine qs_now (v := ?_) (by rfl) ?_ ?_; rotate_left 1; (· (intro w' hS; go_simp; (try (simp only [↓IntWalk.iteOmega]; go_simp)); (try simp (disch := omega) only [IntWalk.i64_in]); try with_reducible rfl)); simp only [Act.put, List.setIfInBounds_toArray, List.set_cons_zero, List.set_cons_succ]) | (refine qs_run (v := ?_) (by rfl) ?_ ?_; rotate_left 1; (· (intro j w' hS; go_simp; (try (simp only [↓IntWalk.iteOmega]; go_simp)); (try simp (disch := omega) only [IntWalk.i64_in]); try with_reducible rfl)); simp only [Act.put, List.setIfInBounds_toArray, List.set_cons_zero, List.set_cons_succ]) | (refine qs_mid (v := ?_) (by rfl) ?_ ?_; rotate_left 1; (· (intro j w' hj1 hj2 hS; go_simp; (try (simp only [↓IntWalk.iteOmega]; go_simp)); (try simp (disch := omega) only [IntWalk.i64_in]); try with_reducible rfl)); simp only [Act.put, List.setIfInBounds_toArray, List.set_cons_zero, List.set_cons_succ]) | (refine qs_skip (by rfl) ?_; simp only [Act.put, List.setIfInBounds_toArray, List.set_cons_zero, List.set_cons_succ])))
                      refine qs_nil ?_
                      go_wp2_with fail
                      go_roundg (gk - 1)
                      case measure => omega
                      case rel => exact ⟨q + 1, by congr 1, by omega, by omega, by omega, LQ.out.drew⟩
                  · have hqI : ¬ (q : Int) < (l.length : Int) := by omega
                    have LW := Lib.hid (below_chain LF.out LQ.out)
                    have HLn := Lib.hid (show (E'.length : Int) = ((cntM l).length : Int) by rw [HLdef.out, ← KW.out.st.inv.lenE])
                    have KE := Lib.hid (KW.out.below LW.out)
                    have e0 : ((E'.length : Int) != ((cntM l).length : Int)) = false := by rw [HLn.out]; simp
                    clear HLn
                    go_wp2_with (first
                      | (go_at_call 22; refine (st_index KE.out.st.st).mono ?_; rintro e w20 ⟨rfl, rfl⟩)
                      | (go_at_call 29; refine (x_len KE.out.st.st.idx).mono ?_; rintro e w21 ⟨rfl, rfl⟩)
                      | ((with_reducible show wpList _ _ _ (_ :: _) _ _); refine wpl_mlen rfl 69 (.tmp 174) (by rfl) Tryz.underlying69 MQ.out (by rfl) ?_; simp only [Act.put, List.setIfInBounds_toArray, List.set_cons_zero, List.set_cons_succ]))
                    go_roundg (n - i - 1)
                    case measure => omega
                    case rel => exact ⟨i + 1, E', f', M', KM', by congr 1, by omega, by omega, by omega, KE.out, KKn.out⟩
      · have hiI : ¬ (i : Int) < (n : Int) := by omega
        go_wp2_with fail
        go_ret
        exact ⟨rfl, K.out.st.low⟩
end Go.Proofs.YtgjjdfhoakailaaGreat
