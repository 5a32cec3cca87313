/-
  The document's rows of lengths.
-/
import Derived.Test.YtacidmamfkfipaaDoorRefFixed
namespace Go.Proofs.YtacidmamfkfipaaDoor
open Go.RowKit
set_option linter.unusedVariables false

def RLenI (base s : Nat) (bs out : List Int) (p most : Nat) (e : Int) (acc : List Int) (val : Int) (kk : Nat) (w : World) (k : Nat) (sv iv : Value) (wr : World) : Prop :=
  ∃ j A c, iv = .int .i64 ((j : Nat) : Int) ∧ j + k = kk ∧ sv = .slice A (acc.length + j) c ∧ wr.ownsRow w.heap.size 3 1 sv (acc.length + j) ((acc ++ List.replicate j val).map (Value.int .i64)) ∧ RefOk wr base s bs p out (most : Int) e ∧ StStep w wr base s s
def RLenO (base s : Nat) (bs out cs : List Int) (most n : Nat) (T : Res (List Int)) (w : World) (k : Nat) (sv : Value) (wr : World) : Prop :=
  ∃ acc p e A c, sv = .slice A acc.length c ∧ wr.ownsRow w.heap.size 3 1 sv acc.length (acc.map (Value.int .i64)) ∧ RefOk wr base s bs p out (most : Int) e ∧ StStep w wr base s s ∧ acc.length ≤ n + 500 ∧
    ((e = 0 ∧ T = lensR (bitsOf bs) cs n k acc p ∧ 8 * bs.length + 1 ≤ k + p ∧ acc.length ≤ n) ∨ (e = 4 ∧ T = .bad false))
def RLensPost (base s : Nat) (bs out : List Int) (most n : Nat) (T : Res (List Int)) (w : World) (ev : Ending) (w' : World) : Prop :=
  ∃ A m c p' e', ev = .returned (.slice A m c) ∧ m ≤ c ∧ RefOk w' base s bs p' out (most : Int) e' ∧ StStep w w' base s s ∧ LensAgree T n w' A m p' e'

set_option maxHeartbeats 1600000 in
set_option maxRecDepth 100000 in
theorem rlengths_any (base s b : Nat) (bs cs : List Int) (p : Nat) (out : List Int) (most n : Nat) (w : World) (h : RefOk w base s bs p out (most : Int) 0) (hd : TreeOk w b cs) (hok : countsOk cs = true) (hB : Bytes bs) (hl : bs.length ≤ 1000000000) (hn : n ≤ 1000) :
    Calls Tryd.prog 64 #[.pointer (some ⟨s, 0, none⟩), .agg #[.map (some b)], .int .i64 (n : Int)] w (RLensPost base s bs out most n (lensR (bitsOf bs) cs n (8 * bs.length + 1) [] p) w) := by
  have HBy := Lib.hid hB
  have h3 := h.2.2.1
  have hp := h.1
  have L1 := Lib.hid ((Below.refl w.heap.size w).alloc (Nat.le_refl _) (.cells #[.map (some b)] 117))
  have H := Lib.hid (h.below L1.out)
  have S1 := Lib.hid (StStep.of_below (s := s) (r := s) L1.out h3)
  have TR := Lib.hid (hd.below L1.out)
  have K1 := Lib.hid (Blk.made w 117 #[.map (some b)])
  clear h hd hB
  obtain ⟨T, hT⟩ : ∃ T, T = lensR (bitsOf bs) cs n (8 * bs.length + 1) [] p := ⟨_, rfl⟩
  rw [← hT]
  have HT := Lib.hid hT
  clear hT
  go_enter Tryd.func64, Tryd.ntmps64
  go_wp2
  obtain ⟨w1, hw1⟩ : ∃ w1, w1 = w.alloc (.cells #[.map (some b)] 117) := ⟨_, rfl⟩
  rw [← hw1] at L1 H S1 TR K1
  rw [← hw1]
  have h5 : base ≤ w1.heap.size := H.out.2.2.1
  clear hw1 L1
  go_loopg [7] (8 * bs.length + 1) (RLenO base s bs out cs most n T w1)
  case atStart => exact ⟨[], p, 0, none, 0, rfl, ⟨rfl, .inl ⟨rfl, rfl⟩⟩, H.out, StStep.refl _ _ _ _, by simp, .inl ⟨rfl, HT.out, by omega, by simp⟩⟩
  case round =>
    clear HT
    obtain ⟨acc, p1, e1, A, c, rfl, ho, hs, hst, hlen, hT⟩ := hrel
    obtain ⟨wo, rfl⟩ : ∃ wo : World, wo = wr := ⟨_, rfl⟩
    have HO := Lib.hid ho
    have HS := Lib.hid hs
    have HSt := Lib.hid hst
    have HT := Lib.hid hT
    have p1l := hs.1
    have h5' := hs.2.2.1
    have c3 := hs.c4
    have KT := Lib.hid (H.out.keepBlk hst K1.out (by decide) (by decide))
    have kc := KT.out.cell (i := 0) rfl
    clear ho hst hT hs
    rcases HT.out with ⟨rfl, hT, hk, hln⟩ | ⟨rfl, hT⟩
    · have HTk := Lib.hid hT
      clear hT HT
      by_cases hlt : acc.length < n
      · have hltI : (acc.length : Int) < n := by omega
        obtain ⟨f, rfl⟩ : ∃ f, gk = f + 1 := ⟨gk - 1, by omega⟩
        have HT' := Lib.hid (show T = (symR (bitsOf bs) cs p1).bind fun s p =>
          (if s = 16 then (if acc.length = 0 then .bad false else (numR (bitsOf bs) p 2).bind fun x p => .ok (acc.getD (acc.length - 1) 0, 3 + x) p)
           else if s = 17 then (numR (bitsOf bs) p 3).bind fun x p => .ok (0, 3 + x) p
           else if s = 18 then (numR (bitsOf bs) p 7).bind fun x p => .ok (0, 11 + x) p
           else .ok ((s : Int), 1) p : Res (Int × Nat)).bind fun vk p =>
            if n < acc.length + vk.2 then .bad false else lensR (bitsOf bs) cs n f (acc ++ List.replicate vk.2 vk.1) p from by rw [HTk.out, lensR, if_neg (by omega)])
        clear HTk
        go_wp2_with fail
        refine (rsymbol_any base s b bs cs p1 out (most : Int) 0 wo HS.out (TR.out.step HSt.out H.out.sblk) hok HBy.out hl).mono ?_
        rintro ev w2 ⟨v, p2, e2, rfl, hv, hs2, st2, tk2⟩
        have hv288 : v ≤ 288 := by have := len_of hok; omega
        have H2 := Lib.hid hs2
        have h52 := hs2.2.2.1
        have c42 := hs2.c4
        have S2 := Lib.hid (HSt.out.trans st2)
        have O2 := Lib.hid (HS.out.row st2 HO.out)
        have TK := Lib.hid (took_or (tk2.resolve_right (fun h => h.1 rfl)).2)
        have hw0 : w1.heap.size ≤ wo.heap.size := HSt.out.size
        have hw2 : wo.heap.size ≤ w2.heap.size := st2.size
        clear hs2 st2 tk2 HS HSt HO c3 kc KT
        rcases TK.out with ⟨hsy, rfl⟩ | ⟨bb, hsy, _, he2⟩
        rotate_left
        · obtain rfl := symR_bad hsy
          rw [if_pos rfl] at he2
          have he4 : e2 = 4 := he2
          subst he4
          have HTb := Lib.hid (show T = .bad false by rw [HT'.out, hsy]; rfl)
          clear HT' TK hsy he2
          go_wp2
          go_ret
          exact ⟨_, _, _, p2, 4, rfl, Nat.le_refl _, H2.out, S1.out.trans S2.out, by rw [HTb.out]; rfl⟩
        have hpp : p1 < p2 := (symR_lt hsy).1
        have hT2 := HT'.out
        rw [hsy, Res.bind] at hT2
        have HT2 := Lib.hid hT2
        clear hT2
        clear HT' TK hsy
        by_cases h16 : v = 16
        · subst h16
          rw [if_pos rfl] at HT2
          by_cases h0 : acc.length = 0
          · rw [if_pos h0] at HT2
            have d0 : ((acc.length : Int) == 0) = true := by simpa using h0
            have hle0 : acc.length ≤ 0 := by omega
            have HTb := Lib.hid (show T = .bad false from HT2.out)
            clear h0 HT2
            go_wp2_with (go_at_call 38; refine (rfail_any base s bs p2 out (most : Int) 0 4 w2 H2.out).mono ?_; rintro ev w5 ⟨rfl, h5', s5, _⟩; have H3 := Lib.hid h5'; have S3 := Lib.hid (S2.out.trans s5); clear h5' s5)
            go_ret
            exact ⟨_, _, _, p2, 4, rfl, Nat.le_refl _, H3.out, S1.out.trans S3.out, by rw [HTb.out]; rfl⟩
          · rw [if_neg h0] at HT2
            have d0 : ((acc.length : Int) == 0) = false := by simpa using h0
            have hpos : 0 < acc.length := by omega
            obtain ⟨g, cap0, hv0, _, hglt⟩ := O2.out.form hpos
            injection hv0 with hv0 _ hv1
            subst hv0 hv1
            have cx := O2.out.cells (g := g) rfl (acc.length - 1) (Value.int .i64 (acc.getD (acc.length - 1) 0)) (by simp [show acc.length - 1 < acc.length by omega])
            rw [Addr.add_mid, Nat.zero_add] at cx
            generalize hx0 : acc.getD (acc.length - 1) 0 = x0 at *
            have HX0 := Lib.hid hx0
            clear hx0
            have hposI : (1 : Int) ≤ acc.length := by omega
            go_wp2
            refine wp_region_qs (fun j w' => j ≤ 1 → w'.cell? ⟨g, acc.length - 1, none⟩ = some (.int .i64 x0)) [(0, some 1), (1, some 1), (2, some 1), (3, some 1), (4, some 1), (5, some 1), (6, some 0), (7, none), (8, some 1), (9, some 1), (10, some 1)] (by kernel_rfl) (by kernel_rfl) (by kernel_rfl) (by kernel_rfl) (by kernel_rfl) (fun _ _ _ _ _ h => h) (fun _ => cx) ?_
            simp only [List.map_cons, List.map_nil, List.getD_cons_succ, List.getD_cons_zero]
            (repeat (first | (refine qs_now (v := ?_) (by rfl) ?_ ?_; rotate_left 1; (· (intro w' hS; go_simp; (try (simp only [↓IntWalk.iteOmega]; go_simp)); (try simp (disch := omega) only [IntWalk.i64_in]); try with_reducible rfl)); simp only [Act.put, List.setIfInBounds_toArray, List.set_cons_zero, List.set_cons_succ]) | (refine qs_run (v := ?_) (by rfl) ?_ ?_; rotate_left 1; (· (intro j w' hS; go_simp; (try (simp only [↓IntWalk.iteOmega]; go_simp)); (try simp (disch := omega) only [IntWalk.i64_in]); try with_reducible rfl)); simp only [Act.put, List.setIfInBounds_toArray, List.set_cons_zero, List.set_cons_succ]) | (refine qs_mid (v := ?_) (by rfl) ?_ ?_; rotate_left 1; (· (intro j w' hj1 hj2 hS; go_simp; (try (simp only [↓IntWalk.iteOmega]; go_simp)); (try simp (disch := omega) only [IntWalk.i64_in]); try with_reducible rfl)); simp only [Act.put, List.setIfInBounds_toArray, List.set_cons_zero, List.set_cons_succ]) | (refine qs_skip (by rfl) ?_; simp only [Act.put, List.setIfInBounds_toArray, List.set_cons_zero, List.set_cons_succ])))
            refine qs_act ?_
            go_wp2_with fail
            have hdr := (Below.refl w2.heap.size w2).drew
            have H2' := Lib.hid (H2.out.below hdr)
            have S2' := Lib.hid (S2.out.trans (StStep.of_below hdr h52))
            have O2' := Lib.hid (own_below O2.out hdr)
            clear hdr H2 S2 O2
            have H2 := H2'
            have S2 := S2'
            have O2 := O2'
            clear H2' S2' O2'
            refine (rnumber_any base s bs p2 out (most : Int) 0 2 w2.drew H2.out HBy.out hl (by omega)).mono ?_
            rintro ev w4 ⟨x, p4, e4, rfl, hx, hs4, st4, tk4, -⟩
            have H4 := Lib.hid hs4
            have h54 := hs4.2.2.1
            have S4 := Lib.hid (S2.out.trans st4)
            have O4 := Lib.hid (H2.out.row st4 O2.out)
            have tk4' := (tk4.resolve_right (fun h => h.1 rfl)).2
            have T4 := Lib.hid (took_num (.inr ⟨rfl, HT2.out⟩) tk4')
            have P4 := Lib.hid (show e4 = 0 → p1 < p4 from fun h0 => by
              rcases took_or tk4' with ⟨hh, he⟩ | ⟨b, _, _, he⟩
              · have := (numR_ok hh).1; omega
              · rw [if_pos rfl] at he; exact absurd (he.symm.trans h0) (errOf_ne b))
            have hxk : x ≤ 150 := by omega
            have TF := Lib.hid (show (e4 = 4 ∧ T = .bad false) ∨ (e4 = 0 ∧ (T = if n < acc.length + (3 + x) then .bad false else lensR (bitsOf bs) cs n f (acc ++ List.replicate (3 + x) x0) p4) ∧ p1 < p4) by
              rcases T4.out with ⟨a, b⟩ | ⟨a, b⟩
              · exact .inl ⟨a, b⟩
              · exact .inr ⟨a, b, P4.out a⟩)
            clear hs4 st4 tk4 tk4' H2 S2 O2 HT2 T4 P4 hx
            have cx' := O4.out.cells (g := g) rfl (acc.length - 1) (Value.int .i64 (acc.getD (acc.length - 1) 0)) (by simp [show acc.length - 1 < acc.length by omega])
            rw [Addr.add_mid, Nat.zero_add, HX0.out] at cx'
            clear cx
            go_wp2
            refine ⟨fun _ => cx', ?_⟩
            (repeat (first | (refine qs_now (v := ?_) (by rfl) ?_ ?_; rotate_left 1; (· (intro w' hS; go_simp; (try (simp only [↓IntWalk.iteOmega]; go_simp)); (try simp (disch := omega) only [IntWalk.i64_in]); try with_reducible rfl)); simp only [Act.put, List.setIfInBounds_toArray, List.set_cons_zero, List.set_cons_succ]) | (refine qs_run (v := ?_) (by rfl) ?_ ?_; rotate_left 1; (· (intro j w' hS; go_simp; (try (simp only [↓IntWalk.iteOmega]; go_simp)); (try simp (disch := omega) only [IntWalk.i64_in]); try with_reducible rfl)); simp only [Act.put, List.setIfInBounds_toArray, List.set_cons_zero, List.set_cons_succ]) | (refine qs_mid (v := ?_) (by rfl) ?_ ?_; rotate_left 1; (· (intro j w' hj1 hj2 hS; go_simp; (try (simp only [↓IntWalk.iteOmega]; go_simp)); (try simp (disch := omega) only [IntWalk.i64_in]); try with_reducible rfl)); simp only [Act.put, List.setIfInBounds_toArray, List.set_cons_zero, List.set_cons_succ]) | (refine qs_skip (by rfl) ?_; simp only [Act.put, List.setIfInBounds_toArray, List.set_cons_zero, List.set_cons_succ])))
            refine qs_nil ?_
            clear cx'
            by_cases hbig : n < acc.length + (3+x)
            · have hbigI : (n : Int) < (acc.length : Int) + (3+x) := by omega
              go_wp2_with (go_at_call 38; refine (rfail_any base s bs p4 out (most : Int) e4 4 w4 H4.out).mono ?_; rintro ev w5 ⟨rfl, h5', s5, _⟩; have H3 := Lib.hid h5'; have S3 := Lib.hid (S4.out.trans s5); have O3 := Lib.hid (H4.out.row s5 O4.out); clear h5' s5)
              clear H4 S4 O4
              have HE := Lib.hid (show (if e4 = 0 then (4 : Int) else e4) = 4 ∧ T = .bad false by
                rcases TF.out with ⟨a, b⟩ | ⟨a, b, _⟩
                · rw [a]; exact ⟨rfl, b⟩
                · rw [if_pos hbig] at b
                  rw [if_pos a]; exact ⟨rfl, b⟩)
              rw [HE.out.1] at H3
              clear TF
              go_loopg [7, 11] ((3+x)) (RLenI base s bs out p4 most 4 acc x0 (3+x) w1)
              case atStart => exact ⟨0, _, _, rfl, by omega, rfl, by simpa using O3.out, H3.out, S3.out⟩
              case round =>
                clear O3 H3 S3
                obtain ⟨j, A3, c3, rfl, hj, rfl, ho3, hs3, st3⟩ := hrel
                have O3 := Lib.hid ho3
                have H3 := Lib.hid hs3
                have S3 := Lib.hid st3
                have hw3 := hs3.2.2.1
                have hw4 := st3.size
                clear ho3 hs3 st3
                by_cases hjl : j < (3+x)
                · have hjI : (j : Int) < (3+x) := by omega
                  go_wp2_with (refine app_int rfl (.tmp 72) (.tmp 74) rfl w1.heap.size _ (acc.length + j) _ wr.heap.size _ 3 rfl (O3.out.alloc _) rfl (Blk.made _ _ _) (by omega) (by simp; omega) ?_; intro g6 cap6 w6 ho6 hg6 hor6 hlt6; have HO6 := Lib.hid ho6; have HG6 := Lib.hid hg6; clear ho6 hg6 hor6 hlt6)
                  go_roundg (gk - 1)
                  case rel =>
                    have hb := (Below.refl wr.heap.size wr).alloc (Nat.le_refl _) (.cells #[.int .i64 (x0)] 3)
                    refine ⟨j + 1, _, _, by go_num, by omega, rfl, ?_, (H3.out.below hb).int (own_below O3.out hb) h5 HG6.out, (S3.out.trans (StStep.of_below hb hw3)).int (own_below O3.out hb) (Nat.le_refl _) h5 HG6.out⟩
                    have := HO6.out
                    rw [List.append_assoc, ← List.replicate_succ'] at this
                    exact this
                  case measure => omega
                · have hjI : ¬ (j : Int) < (3+x) := by omega
                  obtain rfl : j = (3+x) := by omega
                  go_wp2
                  go_roundg f
                  case measure => omega
                  case rel =>
                    refine ⟨acc ++ List.replicate ((3+x)) (x0), p4, 4, A3, c3, by simp, by simpa using O3.out, H3.out, S3.out, by simp; omega, ?_⟩
                    (exact .inr ⟨rfl, HE.out.2⟩)
            ·
              have hbigI : ¬ (n : Int) < (acc.length : Int) + (3+x) := by omega
              go_wp2
              rw [if_neg hbig] at TF
              have H3 := H4
              have S3 := S4
              have O3 := O4
              clear H4 S4 O4
              go_loopg [7, 11] ((3+x)) (RLenI base s bs out p4 most e4 acc x0 (3+x) w1)
              case atStart => exact ⟨0, _, _, rfl, by omega, rfl, by simpa using O3.out, H3.out, S3.out⟩
              case round =>
                clear O3 H3 S3
                obtain ⟨j, A3, c3, rfl, hj, rfl, ho3, hs3, st3⟩ := hrel
                have O3 := Lib.hid ho3
                have H3 := Lib.hid hs3
                have S3 := Lib.hid st3
                have hw3 := hs3.2.2.1
                have hw4 := st3.size
                clear ho3 hs3 st3
                by_cases hjl : j < (3+x)
                · have hjI : (j : Int) < (3+x) := by omega
                  go_wp2_with (refine app_int rfl (.tmp 72) (.tmp 74) rfl w1.heap.size _ (acc.length + j) _ wr.heap.size _ 3 rfl (O3.out.alloc _) rfl (Blk.made _ _ _) (by omega) (by simp; omega) ?_; intro g6 cap6 w6 ho6 hg6 hor6 hlt6; have HO6 := Lib.hid ho6; have HG6 := Lib.hid hg6; clear ho6 hg6 hor6 hlt6)
                  go_roundg (gk - 1)
                  case rel =>
                    have hb := (Below.refl wr.heap.size wr).alloc (Nat.le_refl _) (.cells #[.int .i64 (x0)] 3)
                    refine ⟨j + 1, _, _, by go_num, by omega, rfl, ?_, (H3.out.below hb).int (own_below O3.out hb) h5 HG6.out, (S3.out.trans (StStep.of_below hb hw3)).int (own_below O3.out hb) (Nat.le_refl _) h5 HG6.out⟩
                    have := HO6.out
                    rw [List.append_assoc, ← List.replicate_succ'] at this
                    exact this
                  case measure => omega
                · have hjI : ¬ (j : Int) < (3+x) := by omega
                  obtain rfl : j = (3+x) := by omega
                  go_wp2
                  go_roundg f
                  case measure => omega
                  case rel =>
                    refine ⟨acc ++ List.replicate ((3+x)) (x0), p4, e4, A3, c3, by simp, by simpa using O3.out, H3.out, S3.out, by simp; omega, ?_⟩
                    (exact tailend TF.out hk (by simp; omega))
        by_cases h17 : v = 17
        · subst h17
          rw [if_neg (by decide), if_pos rfl] at HT2
          go_wp2_with fail
          refine (rnumber_any base s bs p2 out (most : Int) 0 3 w2 H2.out HBy.out hl (by omega)).mono ?_
          rintro ev w4 ⟨x, p4, e4, rfl, hx, hs4, st4, tk4, -⟩
          have H4 := Lib.hid hs4
          have h54 := hs4.2.2.1
          have S4 := Lib.hid (S2.out.trans st4)
          have O4 := Lib.hid (H2.out.row st4 O2.out)
          have tk4' := (tk4.resolve_right (fun h => h.1 rfl)).2
          have T4 := Lib.hid (took_num (.inr ⟨rfl, HT2.out⟩) tk4')
          have P4 := Lib.hid (show e4 = 0 → p1 < p4 from fun h0 => by
            rcases took_or tk4' with ⟨hh, he⟩ | ⟨b, _, _, he⟩
            · have := (numR_ok hh).1; omega
            · rw [if_pos rfl] at he; exact absurd (he.symm.trans h0) (errOf_ne b))
          have hxk : x ≤ 150 := by omega
          have TF := Lib.hid (show (e4 = 4 ∧ T = .bad false) ∨ (e4 = 0 ∧ (T = if n < acc.length + (3 + x) then .bad false else lensR (bitsOf bs) cs n f (acc ++ List.replicate (3 + x) 0) p4) ∧ p1 < p4) by
            rcases T4.out with ⟨a, b⟩ | ⟨a, b⟩
            · exact .inl ⟨a, b⟩
            · exact .inr ⟨a, b, P4.out a⟩)
          clear hs4 st4 tk4 tk4' H2 S2 O2 HT2 T4 P4 hx
          by_cases hbig : n < acc.length + (3+x)
          · have hbigI : (n : Int) < (acc.length : Int) + (3+x) := by omega
            go_wp2_with (go_at_call 38; refine (rfail_any base s bs p4 out (most : Int) e4 4 w4 H4.out).mono ?_; rintro ev w5 ⟨rfl, h5', s5, _⟩; have H3 := Lib.hid h5'; have S3 := Lib.hid (S4.out.trans s5); have O3 := Lib.hid (H4.out.row s5 O4.out); clear h5' s5)
            clear H4 S4 O4
            have HE := Lib.hid (show (if e4 = 0 then (4 : Int) else e4) = 4 ∧ T = .bad false by
              rcases TF.out with ⟨a, b⟩ | ⟨a, b, _⟩
              · rw [a]; exact ⟨rfl, b⟩
              · rw [if_pos hbig] at b
                rw [if_pos a]; exact ⟨rfl, b⟩)
            rw [HE.out.1] at H3
            clear TF
            go_loopg [7, 11] ((3+x)) (RLenI base s bs out p4 most 4 acc 0 (3+x) w1)
            case atStart => exact ⟨0, _, _, rfl, by omega, rfl, by simpa using O3.out, H3.out, S3.out⟩
            case round =>
              clear O3 H3 S3
              obtain ⟨j, A3, c3, rfl, hj, rfl, ho3, hs3, st3⟩ := hrel
              have O3 := Lib.hid ho3
              have H3 := Lib.hid hs3
              have S3 := Lib.hid st3
              have hw3 := hs3.2.2.1
              have hw4 := st3.size
              clear ho3 hs3 st3
              by_cases hjl : j < (3+x)
              · have hjI : (j : Int) < (3+x) := by omega
                go_wp2_with (refine app_int rfl (.tmp 72) (.tmp 74) rfl w1.heap.size _ (acc.length + j) _ wr.heap.size _ 3 rfl (O3.out.alloc _) rfl (Blk.made _ _ _) (by omega) (by simp; omega) ?_; intro g6 cap6 w6 ho6 hg6 hor6 hlt6; have HO6 := Lib.hid ho6; have HG6 := Lib.hid hg6; clear ho6 hg6 hor6 hlt6)
                go_roundg (gk - 1)
                case rel =>
                  have hb := (Below.refl wr.heap.size wr).alloc (Nat.le_refl _) (.cells #[.int .i64 (0)] 3)
                  refine ⟨j + 1, _, _, by go_num, by omega, rfl, ?_, (H3.out.below hb).int (own_below O3.out hb) h5 HG6.out, (S3.out.trans (StStep.of_below hb hw3)).int (own_below O3.out hb) (Nat.le_refl _) h5 HG6.out⟩
                  have := HO6.out
                  rw [List.append_assoc, ← List.replicate_succ'] at this
                  exact this
                case measure => omega
              · have hjI : ¬ (j : Int) < (3+x) := by omega
                obtain rfl : j = (3+x) := by omega
                go_wp2
                go_roundg f
                case measure => omega
                case rel =>
                  refine ⟨acc ++ List.replicate ((3+x)) (0), p4, 4, A3, c3, by simp, by simpa using O3.out, H3.out, S3.out, by simp; omega, ?_⟩
                  (exact .inr ⟨rfl, HE.out.2⟩)
          ·
            have hbigI : ¬ (n : Int) < (acc.length : Int) + (3+x) := by omega
            go_wp2
            rw [if_neg hbig] at TF
            have H3 := H4
            have S3 := S4
            have O3 := O4
            clear H4 S4 O4
            go_loopg [7, 11] ((3+x)) (RLenI base s bs out p4 most e4 acc 0 (3+x) w1)
            case atStart => exact ⟨0, _, _, rfl, by omega, rfl, by simpa using O3.out, H3.out, S3.out⟩
            case round =>
              clear O3 H3 S3
              obtain ⟨j, A3, c3, rfl, hj, rfl, ho3, hs3, st3⟩ := hrel
              have O3 := Lib.hid ho3
              have H3 := Lib.hid hs3
              have S3 := Lib.hid st3
              have hw3 := hs3.2.2.1
              have hw4 := st3.size
              clear ho3 hs3 st3
              by_cases hjl : j < (3+x)
              · have hjI : (j : Int) < (3+x) := by omega
                go_wp2_with (refine app_int rfl (.tmp 72) (.tmp 74) rfl w1.heap.size _ (acc.length + j) _ wr.heap.size _ 3 rfl (O3.out.alloc _) rfl (Blk.made _ _ _) (by omega) (by simp; omega) ?_; intro g6 cap6 w6 ho6 hg6 hor6 hlt6; have HO6 := Lib.hid ho6; have HG6 := Lib.hid hg6; clear ho6 hg6 hor6 hlt6)
                go_roundg (gk - 1)
                case rel =>
                  have hb := (Below.refl wr.heap.size wr).alloc (Nat.le_refl _) (.cells #[.int .i64 (0)] 3)
                  refine ⟨j + 1, _, _, by go_num, by omega, rfl, ?_, (H3.out.below hb).int (own_below O3.out hb) h5 HG6.out, (S3.out.trans (StStep.of_below hb hw3)).int (own_below O3.out hb) (Nat.le_refl _) h5 HG6.out⟩
                  have := HO6.out
                  rw [List.append_assoc, ← List.replicate_succ'] at this
                  exact this
                case measure => omega
              · have hjI : ¬ (j : Int) < (3+x) := by omega
                obtain rfl : j = (3+x) := by omega
                go_wp2
                go_roundg f
                case measure => omega
                case rel =>
                  refine ⟨acc ++ List.replicate ((3+x)) (0), p4, e4, A3, c3, by simp, by simpa using O3.out, H3.out, S3.out, by simp; omega, ?_⟩
                  (exact tailend TF.out hk (by simp; omega))
        by_cases h18 : v = 18
        · subst h18
          rw [if_neg (by decide), if_neg (by decide), if_pos rfl] at HT2
          go_wp2_with fail
          refine (rnumber_any base s bs p2 out (most : Int) 0 7 w2 H2.out HBy.out hl (by omega)).mono ?_
          rintro ev w4 ⟨x, p4, e4, rfl, hx, hs4, st4, tk4, -⟩
          have H4 := Lib.hid hs4
          have h54 := hs4.2.2.1
          have S4 := Lib.hid (S2.out.trans st4)
          have O4 := Lib.hid (H2.out.row st4 O2.out)
          have tk4' := (tk4.resolve_right (fun h => h.1 rfl)).2
          have T4 := Lib.hid (took_num (.inr ⟨rfl, HT2.out⟩) tk4')
          have P4 := Lib.hid (show e4 = 0 → p1 < p4 from fun h0 => by
            rcases took_or tk4' with ⟨hh, he⟩ | ⟨b, _, _, he⟩
            · have := (numR_ok hh).1; omega
            · rw [if_pos rfl] at he; exact absurd (he.symm.trans h0) (errOf_ne b))
          have hxk : x ≤ 150 := by omega
          have TF := Lib.hid (show (e4 = 4 ∧ T = .bad false) ∨ (e4 = 0 ∧ (T = if n < acc.length + (11 + x) then .bad false else lensR (bitsOf bs) cs n f (acc ++ List.replicate (11 + x) 0) p4) ∧ p1 < p4) by
            rcases T4.out with ⟨a, b⟩ | ⟨a, b⟩
            · exact .inl ⟨a, b⟩
            · exact .inr ⟨a, b, P4.out a⟩)
          clear hs4 st4 tk4 tk4' H2 S2 O2 HT2 T4 P4 hx
          by_cases hbig : n < acc.length + (11+x)
          · have hbigI : (n : Int) < (acc.length : Int) + (11+x) := by omega
            go_wp2_with (go_at_call 38; refine (rfail_any base s bs p4 out (most : Int) e4 4 w4 H4.out).mono ?_; rintro ev w5 ⟨rfl, h5', s5, _⟩; have H3 := Lib.hid h5'; have S3 := Lib.hid (S4.out.trans s5); have O3 := Lib.hid (H4.out.row s5 O4.out); clear h5' s5)
            clear H4 S4 O4
            have HE := Lib.hid (show (if e4 = 0 then (4 : Int) else e4) = 4 ∧ T = .bad false by
              rcases TF.out with ⟨a, b⟩ | ⟨a, b, _⟩
              · rw [a]; exact ⟨rfl, b⟩
              · rw [if_pos hbig] at b
                rw [if_pos a]; exact ⟨rfl, b⟩)
            rw [HE.out.1] at H3
            clear TF
            go_loopg [7, 11] ((11+x)) (RLenI base s bs out p4 most 4 acc 0 (11+x) w1)
            case atStart => exact ⟨0, _, _, rfl, by omega, rfl, by simpa using O3.out, H3.out, S3.out⟩
            case round =>
              clear O3 H3 S3
              obtain ⟨j, A3, c3, rfl, hj, rfl, ho3, hs3, st3⟩ := hrel
              have O3 := Lib.hid ho3
              have H3 := Lib.hid hs3
              have S3 := Lib.hid st3
              have hw3 := hs3.2.2.1
              have hw4 := st3.size
              clear ho3 hs3 st3
              by_cases hjl : j < (11+x)
              · have hjI : (j : Int) < (11+x) := by omega
                go_wp2_with (refine app_int rfl (.tmp 72) (.tmp 74) rfl w1.heap.size _ (acc.length + j) _ wr.heap.size _ 3 rfl (O3.out.alloc _) rfl (Blk.made _ _ _) (by omega) (by simp; omega) ?_; intro g6 cap6 w6 ho6 hg6 hor6 hlt6; have HO6 := Lib.hid ho6; have HG6 := Lib.hid hg6; clear ho6 hg6 hor6 hlt6)
                go_roundg (gk - 1)
                case rel =>
                  have hb := (Below.refl wr.heap.size wr).alloc (Nat.le_refl _) (.cells #[.int .i64 (0)] 3)
                  refine ⟨j + 1, _, _, by go_num, by omega, rfl, ?_, (H3.out.below hb).int (own_below O3.out hb) h5 HG6.out, (S3.out.trans (StStep.of_below hb hw3)).int (own_below O3.out hb) (Nat.le_refl _) h5 HG6.out⟩
                  have := HO6.out
                  rw [List.append_assoc, ← List.replicate_succ'] at this
                  exact this
                case measure => omega
              · have hjI : ¬ (j : Int) < (11+x) := by omega
                obtain rfl : j = (11+x) := by omega
                go_wp2
                go_roundg f
                case measure => omega
                case rel =>
                  refine ⟨acc ++ List.replicate ((11+x)) (0), p4, 4, A3, c3, by simp, by simpa using O3.out, H3.out, S3.out, by simp; omega, ?_⟩
                  (exact .inr ⟨rfl, HE.out.2⟩)
          ·
            have hbigI : ¬ (n : Int) < (acc.length : Int) + (11+x) := by omega
            go_wp2
            rw [if_neg hbig] at TF
            have H3 := H4
            have S3 := S4
            have O3 := O4
            clear H4 S4 O4
            go_loopg [7, 11] ((11+x)) (RLenI base s bs out p4 most e4 acc 0 (11+x) w1)
            case atStart => exact ⟨0, _, _, rfl, by omega, rfl, by simpa using O3.out, H3.out, S3.out⟩
            case round =>
              clear O3 H3 S3
              obtain ⟨j, A3, c3, rfl, hj, rfl, ho3, hs3, st3⟩ := hrel
              have O3 := Lib.hid ho3
              have H3 := Lib.hid hs3
              have S3 := Lib.hid st3
              have hw3 := hs3.2.2.1
              have hw4 := st3.size
              clear ho3 hs3 st3
              by_cases hjl : j < (11+x)
              · have hjI : (j : Int) < (11+x) := by omega
                go_wp2_with (refine app_int rfl (.tmp 72) (.tmp 74) rfl w1.heap.size _ (acc.length + j) _ wr.heap.size _ 3 rfl (O3.out.alloc _) rfl (Blk.made _ _ _) (by omega) (by simp; omega) ?_; intro g6 cap6 w6 ho6 hg6 hor6 hlt6; have HO6 := Lib.hid ho6; have HG6 := Lib.hid hg6; clear ho6 hg6 hor6 hlt6)
                go_roundg (gk - 1)
                case rel =>
                  have hb := (Below.refl wr.heap.size wr).alloc (Nat.le_refl _) (.cells #[.int .i64 (0)] 3)
                  refine ⟨j + 1, _, _, by go_num, by omega, rfl, ?_, (H3.out.below hb).int (own_below O3.out hb) h5 HG6.out, (S3.out.trans (StStep.of_below hb hw3)).int (own_below O3.out hb) (Nat.le_refl _) h5 HG6.out⟩
                  have := HO6.out
                  rw [List.append_assoc, ← List.replicate_succ'] at this
                  exact this
                case measure => omega
              · have hjI : ¬ (j : Int) < (11+x) := by omega
                obtain rfl : j = (11+x) := by omega
                go_wp2
                go_roundg f
                case measure => omega
                case rel =>
                  refine ⟨acc ++ List.replicate ((11+x)) (0), p4, e4, A3, c3, by simp, by simpa using O3.out, H3.out, S3.out, by simp; omega, ?_⟩
                  (exact tailend TF.out hk (by simp; omega))
        have d16 : ((v : Int) == 16) = false := by simp; omega
        have d17 : ((v : Int) == 17) = false := by simp; omega
        have d18 : ((v : Int) == 18) = false := by simp; omega
        rw [if_neg h16, if_neg h17, if_neg h18] at HT2
        have TF := Lib.hid (show T = if n < acc.length + 1 then .bad false else lensR (bitsOf bs) cs n f (acc ++ List.replicate 1 (v : Int)) p2 from HT2.out)
        clear HT2
        have H3 := H2
        have S3 := S2
        have O3 := O2
        clear H2 S2 O2
        have hbig : ¬ n < acc.length + 1 := by omega
        have hbigI : ¬ (n : Int) < (acc.length : Int) + 1 := by omega
        rw [if_neg hbig] at TF
        go_wp2
        go_loopg [7, 11] (1) (RLenI base s bs out p2 most 0 acc (v:Int) 1 w1)
        case atStart => exact ⟨0, _, _, rfl, by omega, rfl, by simpa using O3.out, H3.out, S3.out⟩
        case round =>
          clear O3 H3 S3
          obtain ⟨j, A3, c3, rfl, hj, rfl, ho3, hs3, st3⟩ := hrel
          have O3 := Lib.hid ho3
          have H3 := Lib.hid hs3
          have S3 := Lib.hid st3
          have hw3 := hs3.2.2.1
          have hw4 := st3.size
          clear ho3 hs3 st3
          by_cases hjl : j < 1
          · have hjI : (j : Int) < 1 := by omega
            go_wp2_with (refine app_int rfl (.tmp 72) (.tmp 74) rfl w1.heap.size _ (acc.length + j) _ wr.heap.size _ 3 rfl (O3.out.alloc _) rfl (Blk.made _ _ _) (by omega) (by simp; omega) ?_; intro g6 cap6 w6 ho6 hg6 hor6 hlt6; have HO6 := Lib.hid ho6; have HG6 := Lib.hid hg6; clear ho6 hg6 hor6 hlt6)
            go_roundg (gk - 1)
            case rel =>
              have hb := (Below.refl wr.heap.size wr).alloc (Nat.le_refl _) (.cells #[.int .i64 ((v:Int))] 3)
              refine ⟨j + 1, _, _, by go_num, by omega, rfl, ?_, (H3.out.below hb).int (own_below O3.out hb) h5 HG6.out, (S3.out.trans (StStep.of_below hb hw3)).int (own_below O3.out hb) (Nat.le_refl _) h5 HG6.out⟩
              have := HO6.out
              rw [List.append_assoc, ← List.replicate_succ'] at this
              exact this
            case measure => omega
          · have hjI : ¬ (j : Int) < 1 := by omega
            obtain rfl : j = 1 := by omega
            go_wp2
            go_roundg f
            case measure => omega
            case rel =>
              refine ⟨acc ++ List.replicate (1) ((v:Int)), p2, 0, A3, c3, by simp, by simpa using O3.out, H3.out, S3.out, by simp; omega, ?_⟩
              (exact .inl ⟨rfl, TF.out, (by omega), (by simp; omega)⟩)
      · have hltI : ¬ (acc.length : Int) < n := by omega
        go_wp2
        go_ret
        refine ⟨_, _, _, p1, 0, rfl, own_cap HO.out, HS.out, S1.out.trans HSt.out, ?_⟩
        obtain ⟨f, rfl⟩ : ∃ f, gk = f + 1 := ⟨gk - 1, by omega⟩
        have h1 := HTk.out
        simp only [lensR] at h1
        rw [if_pos (by omega)] at h1
        rw [h1]
        have e : acc.length = n := by omega
        exact ⟨rfl, rfl, e, by rw [← e]; exact RdI.of_own HO.out⟩
    · have HTb := Lib.hid hT
      clear hT HT
      by_cases hlt : acc.length < n
      · have hltI : (acc.length : Int) < n := by omega
        go_wp2
        go_ret
        exact ⟨_, _, _, p1, 4, rfl, own_cap HO.out, HS.out, S1.out.trans HSt.out, by rw [HTb.out]; rfl⟩
      · have hltI : ¬ (acc.length : Int) < n := by omega
        go_wp2
        go_ret
        exact ⟨_, _, _, p1, 4, rfl, own_cap HO.out, HS.out, S1.out.trans HSt.out, by rw [HTb.out]; rfl⟩
end Go.Proofs.YtacidmamfkfipaaDoor
