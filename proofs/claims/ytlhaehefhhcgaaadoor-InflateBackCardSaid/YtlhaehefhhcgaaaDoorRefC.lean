/-
  The document's rows of lengths.
  The document's blocks with codes of their own.
  The document's Inflate.
-/
import Derived.Test.YtlhaehefhhcgaaaDoorRefB
namespace Go.Proofs.YtlhaehefhhcgaaaDoor
open Go.RowKit
set_option linter.unusedVariables false

def RLenI (base s : Nat) (bs out : List Int) (p most : Nat) (e : Int) (acc : List Int) (val : Int) (kk : Nat) (w : World) (k : Nat) (sv iv : Value) (wr : World) : Prop :=
  ∃ j A c, iv = .int .i64 ((j : Nat) : Int) ∧ j + k = kk ∧ sv = .slice A (acc.length + j) c ∧ wr.ownsRow w.heap.size 3 1 sv (acc.length + j) ((acc ++ List.replicate j val).map (Value.int .i64)) ∧ RefOk wr base s bs p out (most : Int) e ∧ StStep w wr base s s
def RLenO (base s : Nat) (bs out cs : List Int) (most n : Nat) (T : Res (List Int)) (w : World) (k : Nat) (sv : Value) (wr : World) : Prop :=
  ∃ acc p e A c, sv = .slice A acc.length c ∧ wr.ownsRow w.heap.size 3 1 sv acc.length (acc.map (Value.int .i64)) ∧ RefOk wr base s bs p out (most : Int) e ∧ StStep w wr base s s ∧ acc.length ≤ n + 500 ∧
    ((e = 0 ∧ T = lensR (bitsOf bs) cs n k acc p ∧ 8 * bs.length + 1 ≤ k + p ∧ acc.length ≤ n) ∨ (e = 4 ∧ T = .bad false))
def RLensPost (base s : Nat) (bs out : List Int) (most n : Nat) (T : Res (List Int)) (w : World) (ev : Ending) (w' : World) : Prop :=
  ∃ A m c p' e', ev = .returned (.slice A m c) ∧ m ≤ c ∧ RefOk w' base s bs p' out (most : Int) e' ∧ StStep w w' base s s ∧ LensAgree T n w' A m p' e'

set_option maxHeartbeats 1600000 in
set_option maxRecDepth 100000 in
theorem rlengths_any (base s b : Nat) (bs cs : List Int) (p : Nat) (out : List Int) (most n : Nat) (w : World) (h : RefOk w base s bs p out (most : Int) 0) (hd : TreeOk w b cs) (hok : countsOk cs = true) (hB : Bytes bs) (hl : bs.length ≤ 1000000000) (hn : n ≤ 1000) :
    Calls Tryd.prog 64 #[.pointer (some ⟨s, 0, none⟩), .agg #[.map (some b)], .int .i64 (n : Int)] w (RLensPost base s bs out most n (lensR (bitsOf bs) cs n (8 * bs.length + 1) [] p) w) := by
  have HBy := Lib.hid hB
  have h3 := h.2.2.1
  have hp := h.1
  have L1 := Lib.hid ((Below.refl w.heap.size w).alloc (Nat.le_refl _) (.cells #[.map (some b)] 117))
  have H := Lib.hid (h.below L1.out)
  have S1 := Lib.hid (StStep.of_below (s := s) (r := s) L1.out h3)
  have TR := Lib.hid (hd.below L1.out)
  have K1 := Lib.hid (Blk.made w 117 #[.map (some b)])
  clear h hd hB
  obtain ⟨T, hT⟩ : ∃ T, T = lensR (bitsOf bs) cs n (8 * bs.length + 1) [] p := ⟨_, rfl⟩
  rw [← hT]
  have HT := Lib.hid hT
  clear hT
  go_enter Tryd.func64, Tryd.ntmps64
  go_wp2
  obtain ⟨w1, hw1⟩ : ∃ w1, w1 = w.alloc (.cells #[.map (some b)] 117) := ⟨_, rfl⟩
  rw [← hw1] at L1 H S1 TR K1
  rw [← hw1]
  have h5 : base ≤ w1.heap.size := H.out.2.2.1
  clear hw1 L1
  go_loopg [7] (8 * bs.length + 1) (RLenO base s bs out cs most n T w1)
  case atStart => exact ⟨[], p, 0, none, 0, rfl, ⟨rfl, .inl ⟨rfl, rfl⟩⟩, H.out, StStep.refl _ _ _ _, by simp, .inl ⟨rfl, HT.out, by omega, by simp⟩⟩
  case round =>
    clear HT
    obtain ⟨acc, p1, e1, A, c, rfl, ho, hs, hst, hlen, hT⟩ := hrel
    obtain ⟨wo, rfl⟩ : ∃ wo : World, wo = wr := ⟨_, rfl⟩
    have HO := Lib.hid ho
    have HS := Lib.hid hs
    have HSt := Lib.hid hst
    have HT := Lib.hid hT
    have p1l := hs.1
    have h5' := hs.2.2.1
    have c3 := hs.c4
    have KT := Lib.hid (H.out.keepBlk hst K1.out (by decide) (by decide))
    have kc := KT.out.cell (i := 0) rfl
    clear ho hst hT hs
    rcases HT.out with ⟨rfl, hT, hk, hln⟩ | ⟨rfl, hT⟩
    · have HTk := Lib.hid hT
      clear hT HT
      by_cases hlt : acc.length < n
      · have hltI : (acc.length : Int) < n := by omega
        obtain ⟨f, rfl⟩ : ∃ f, gk = f + 1 := ⟨gk - 1, by omega⟩
        have HT' := Lib.hid (show T = (symR (bitsOf bs) cs p1).bind fun s p =>
          (if s = 16 then (if acc.length = 0 then .bad false else (numR (bitsOf bs) p 2).bind fun x p => .ok (acc.getD (acc.length - 1) 0, 3 + x) p)
           else if s = 17 then (numR (bitsOf bs) p 3).bind fun x p => .ok (0, 3 + x) p
           else if s = 18 then (numR (bitsOf bs) p 7).bind fun x p => .ok (0, 11 + x) p
           else .ok ((s : Int), 1) p : Res (Int × Nat)).bind fun vk p =>
            if n < acc.length + vk.2 then .bad false else lensR (bitsOf bs) cs n f (acc ++ List.replicate vk.2 vk.1) p from by rw [HTk.out, lensR, if_neg (by omega)])
        clear HTk
        go_wp2_with fail
        refine (rsymbol_any base s b bs cs p1 out (most : Int) 0 wo HS.out (TR.out.step HSt.out H.out.sblk) hok HBy.out hl).mono ?_
        rintro ev w2 ⟨v, p2, e2, rfl, hv, hs2, st2, tk2⟩
        have hv288 : v ≤ 288 := by have := len_of hok; omega
        have H2 := Lib.hid hs2
        have h52 := hs2.2.2.1
        have c42 := hs2.c4
        have S2 := Lib.hid (HSt.out.trans st2)
        have O2 := Lib.hid (HS.out.row st2 HO.out)
        have TK := Lib.hid (took_or (tk2.resolve_right (fun h => h.1 rfl)).2)
        have hw0 : w1.heap.size ≤ wo.heap.size := HSt.out.size
        have hw2 : wo.heap.size ≤ w2.heap.size := st2.size
        clear hs2 st2 tk2 HS HSt HO c3 kc KT
        rcases TK.out with ⟨hsy, rfl⟩ | ⟨bb, hsy, _, he2⟩
        rotate_left
        · obtain rfl := symR_bad hsy
          rw [if_pos rfl] at he2
          have he4 : e2 = 4 := he2
          subst he4
          have HTb := Lib.hid (show T = .bad false by rw [HT'.out, hsy]; rfl)
          clear HT' TK hsy he2
          go_wp2
          go_ret
          exact ⟨_, _, _, p2, 4, rfl, Nat.le_refl _, H2.out, S1.out.trans S2.out, by rw [HTb.out]; rfl⟩
        have hpp : p1 < p2 := (symR_lt hsy).1
        have hT2 := HT'.out
        rw [hsy, Res.bind] at hT2
        have HT2 := Lib.hid hT2
        clear hT2
        clear HT' TK hsy
        by_cases h16 : v = 16
        · subst h16
          rw [if_pos rfl] at HT2
          by_cases h0 : acc.length = 0
          · rw [if_pos h0] at HT2
            have d0 : ((acc.length : Int) == 0) = true := by simpa using h0
            have hle0 : acc.length ≤ 0 := by omega
            have HTb := Lib.hid (show T = .bad false from HT2.out)
            clear h0 HT2
            go_wp2_with (go_at_call 38; refine (rfail_any base s bs p2 out (most : Int) 0 4 w2 H2.out).mono ?_; rintro ev w5 ⟨rfl, h5', s5, _⟩; have H3 := Lib.hid h5'; have S3 := Lib.hid (S2.out.trans s5); clear h5' s5)
            go_ret
            exact ⟨_, _, _, p2, 4, rfl, Nat.le_refl _, H3.out, S1.out.trans S3.out, by rw [HTb.out]; rfl⟩
          · rw [if_neg h0] at HT2
            have d0 : ((acc.length : Int) == 0) = false := by simpa using h0
            have hpos : 0 < acc.length := by omega
            obtain ⟨g, cap0, hv0, _, hglt⟩ := O2.out.form hpos
            injection hv0 with hv0 _ hv1
            subst hv0 hv1
            have cx := O2.out.cells (g := g) rfl (acc.length - 1) (Value.int .i64 (acc.getD (acc.length - 1) 0)) (by simp [show acc.length - 1 < acc.length by omega])
            rw [Addr.add_mid, Nat.zero_add] at cx
            generalize hx0 : acc.getD (acc.length - 1) 0 = x0 at *
            have HX0 := Lib.hid hx0
            clear hx0
            have hposI : (1 : Int) ≤ acc.length := by omega
            go_wp2
            refine wp_region_qs (fun j w' => j ≤ 1 → w'.cell? ⟨g, acc.length - 1, none⟩ = some (.int .i64 x0)) [(0, some 1), (1, some 1), (2, some 1), (3, some 1), (4, some 1), (5, some 1), (6, some 0), (7, none), (8, some 1), (9, some 1), (10, some 1)] (by kernel_rfl) (by kernel_rfl) (by kernel_rfl) (by kernel_rfl) (by kernel_rfl) (fun _ _ _ _ _ h => h) (fun _ => cx) ?_
            simp only [List.map_cons, List.map_nil, List.getD_cons_succ, List.getD_cons_zero]
            (repeat (first | (refine qs_now (v := ?_) (by rfl) ?_ ?_; rotate_left 1; (· (intro w' hS; go_simp; (try (simp only [↓IntWalk.iteOmega]; go_simp)); (try simp (disch := omega) only [IntWalk.i64_in]); try with_reducible rfl)); simp only [Act.put, List.setIfInBounds_toArray, List.set_cons_zero, List.set_cons_succ]) | (refine qs_run (v := ?_) (by rfl) ?_ ?_; rotate_left 1; (· (intro j w' hS; go_simp; (try (simp only [↓IntWalk.iteOmega]; go_simp)); (try simp (disch := omega) only [IntWalk.i64_in]); try with_reducible rfl)); simp only [Act.put, List.setIfInBounds_toArray, List.set_cons_zero, List.set_cons_succ]) | (refine qs_mid (v := ?_) (by rfl) ?_ ?_; rotate_left 1; (· (intro j w' hj1 hj2 hS; go_simp; (try (simp only [↓IntWalk.iteOmega]; go_simp)); (try simp (disch := omega) only [IntWalk.i64_in]); try with_reducible rfl)); simp only [Act.put, List.setIfInBounds_toArray, List.set_cons_zero, List.set_cons_succ]) | (refine qs_skip (by rfl) ?_; simp only [Act.put, List.setIfInBounds_toArray, List.set_cons_zero, List.set_cons_succ])))
            refine qs_act ?_
            go_wp2_with fail
            have hdr := (Below.refl w2.heap.size w2).drew
            have H2' := Lib.hid (H2.out.below hdr)
            have S2' := Lib.hid (S2.out.trans (StStep.of_below hdr h52))
            have O2' := Lib.hid (own_below O2.out hdr)
            clear hdr H2 S2 O2
            have H2 := H2'
            have S2 := S2'
            have O2 := O2'
            clear H2' S2' O2'
            refine (rnumber_any base s bs p2 out (most : Int) 0 2 w2.drew H2.out HBy.out hl (by omega)).mono ?_
            rintro ev w4 ⟨x, p4, e4, rfl, hx, hs4, st4, tk4, -⟩
            have H4 := Lib.hid hs4
            have h54 := hs4.2.2.1
            have S4 := Lib.hid (S2.out.trans st4)
            have O4 := Lib.hid (H2.out.row st4 O2.out)
            have tk4' := (tk4.resolve_right (fun h => h.1 rfl)).2
            have T4 := Lib.hid (took_num (.inr ⟨rfl, HT2.out⟩) tk4')
            have P4 := Lib.hid (show e4 = 0 → p1 < p4 from fun h0 => by
              rcases took_or tk4' with ⟨hh, he⟩ | ⟨b, _, _, he⟩
              · have := (numR_ok hh).1; omega
              · rw [if_pos rfl] at he; exact absurd (he.symm.trans h0) (errOf_ne b))
            have hxk : x ≤ 150 := by omega
            have TF := Lib.hid (show (e4 = 4 ∧ T = .bad false) ∨ (e4 = 0 ∧ (T = if n < acc.length + (3 + x) then .bad false else lensR (bitsOf bs) cs n f (acc ++ List.replicate (3 + x) x0) p4) ∧ p1 < p4) by
              rcases T4.out with ⟨a, b⟩ | ⟨a, b⟩
              · exact .inl ⟨a, b⟩
              · exact .inr ⟨a, b, P4.out a⟩)
            clear hs4 st4 tk4 tk4' H2 S2 O2 HT2 T4 P4 hx
            have cx' := O4.out.cells (g := g) rfl (acc.length - 1) (Value.int .i64 (acc.getD (acc.length - 1) 0)) (by simp [show acc.length - 1 < acc.length by omega])
            rw [Addr.add_mid, Nat.zero_add, HX0.out] at cx'
            clear cx
            go_wp2
            refine ⟨fun _ => cx', ?_⟩
            (repeat (first | (refine qs_now (v := ?_) (by rfl) ?_ ?_; rotate_left 1; (· (intro w' hS; go_simp; (try (simp only [↓IntWalk.iteOmega]; go_simp)); (try simp (disch := omega) only [IntWalk.i64_in]); try with_reducible rfl)); simp only [Act.put, List.setIfInBounds_toArray, List.set_cons_zero, List.set_cons_succ]) | (refine qs_run (v := ?_) (by rfl) ?_ ?_; rotate_left 1; (· (intro j w' hS; go_simp; (try (simp only [↓IntWalk.iteOmega]; go_simp)); (try simp (disch := omega) only [IntWalk.i64_in]); try with_reducible rfl)); simp only [Act.put, List.setIfInBounds_toArray, List.set_cons_zero, List.set_cons_succ]) | (refine qs_mid (v := ?_) (by rfl) ?_ ?_; rotate_left 1; (· (intro j w' hj1 hj2 hS; go_simp; (try (simp only [↓IntWalk.iteOmega]; go_simp)); (try simp (disch := omega) only [IntWalk.i64_in]); try with_reducible rfl)); simp only [Act.put, List.setIfInBounds_toArray, List.set_cons_zero, List.set_cons_succ]) | (refine qs_skip (by rfl) ?_; simp only [Act.put, List.setIfInBounds_toArray, List.set_cons_zero, List.set_cons_succ])))
            refine qs_nil ?_
            clear cx'
            by_cases hbig : n < acc.length + (3+x)
            · have hbigI : (n : Int) < (acc.length : Int) + (3+x) := by omega
              go_wp2_with (go_at_call 38; refine (rfail_any base s bs p4 out (most : Int) e4 4 w4 H4.out).mono ?_; rintro ev w5 ⟨rfl, h5', s5, _⟩; have H3 := Lib.hid h5'; have S3 := Lib.hid (S4.out.trans s5); have O3 := Lib.hid (H4.out.row s5 O4.out); clear h5' s5)
              clear H4 S4 O4
              have HE := Lib.hid (show (if e4 = 0 then (4 : Int) else e4) = 4 ∧ T = .bad false by
                rcases TF.out with ⟨a, b⟩ | ⟨a, b, _⟩
                · rw [a]; exact ⟨rfl, b⟩
                · rw [if_pos hbig] at b
                  rw [if_pos a]; exact ⟨rfl, b⟩)
              rw [HE.out.1] at H3
              clear TF
              go_loopg [7, 11] ((3+x)) (RLenI base s bs out p4 most 4 acc x0 (3+x) w1)
              case atStart => exact ⟨0, _, _, rfl, by omega, rfl, by simpa using O3.out, H3.out, S3.out⟩
              case round =>
                clear O3 H3 S3
                obtain ⟨j, A3, c3, rfl, hj, rfl, ho3, hs3, st3⟩ := hrel
                have O3 := Lib.hid ho3
                have H3 := Lib.hid hs3
                have S3 := Lib.hid st3
                have hw3 := hs3.2.2.1
                have hw4 := st3.size
                clear ho3 hs3 st3
                by_cases hjl : j < (3+x)
                · have hjI : (j : Int) < (3+x) := by omega
                  go_wp2_with (refine app_int rfl (.tmp 72) (.tmp 74) rfl w1.heap.size _ (acc.length + j) _ wr.heap.size _ 3 rfl (O3.out.alloc _) rfl (Blk.made _ _ _) (by omega) (by simp; omega) ?_; intro g6 cap6 w6 ho6 hg6 hor6 hlt6; have HO6 := Lib.hid ho6; have HG6 := Lib.hid hg6; clear ho6 hg6 hor6 hlt6)
                  go_roundg (gk - 1)
                  case rel =>
                    have hb := (Below.refl wr.heap.size wr).alloc (Nat.le_refl _) (.cells #[.int .i64 (x0)] 3)
                    refine ⟨j + 1, _, _, by go_num, by omega, rfl, ?_, (H3.out.below hb).int (own_below O3.out hb) h5 HG6.out, (S3.out.trans (StStep.of_below hb hw3)).int (own_below O3.out hb) (Nat.le_refl _) h5 HG6.out⟩
                    have := HO6.out
                    rw [List.append_assoc, ← List.replicate_succ'] at this
                    exact this
                  case measure => omega
                · have hjI : ¬ (j : Int) < (3+x) := by omega
                  obtain rfl : j = (3+x) := by omega
                  go_wp2
                  go_roundg f
                  case measure => omega
                  case rel =>
                    refine ⟨acc ++ List.replicate ((3+x)) (x0), p4, 4, A3, c3, by simp, by simpa using O3.out, H3.out, S3.out, by simp; omega, ?_⟩
                    (exact .inr ⟨rfl, HE.out.2⟩)
            ·
              have hbigI : ¬ (n : Int) < (acc.length : Int) + (3+x) := by omega
              go_wp2
              rw [if_neg hbig] at TF
              have H3 := H4
              have S3 := S4
              have O3 := O4
              clear H4 S4 O4
              go_loopg [7, 11] ((3+x)) (RLenI base s bs out p4 most e4 acc x0 (3+x) w1)
              case atStart => exact ⟨0, _, _, rfl, by omega, rfl, by simpa using O3.out, H3.out, S3.out⟩
              case round =>
                clear O3 H3 S3
                obtain ⟨j, A3, c3, rfl, hj, rfl, ho3, hs3, st3⟩ := hrel
                have O3 := Lib.hid ho3
                have H3 := Lib.hid hs3
                have S3 := Lib.hid st3
                have hw3 := hs3.2.2.1
                have hw4 := st3.size
                clear ho3 hs3 st3
                by_cases hjl : j < (3+x)
                · have hjI : (j : Int) < (3+x) := by omega
                  go_wp2_with (refine app_int rfl (.tmp 72) (.tmp 74) rfl w1.heap.size _ (acc.length + j) _ wr.heap.size _ 3 rfl (O3.out.alloc _) rfl (Blk.made _ _ _) (by omega) (by simp; omega) ?_; intro g6 cap6 w6 ho6 hg6 hor6 hlt6; have HO6 := Lib.hid ho6; have HG6 := Lib.hid hg6; clear ho6 hg6 hor6 hlt6)
                  go_roundg (gk - 1)
                  case rel =>
                    have hb := (Below.refl wr.heap.size wr).alloc (Nat.le_refl _) (.cells #[.int .i64 (x0)] 3)
                    refine ⟨j + 1, _, _, by go_num, by omega, rfl, ?_, (H3.out.below hb).int (own_below O3.out hb) h5 HG6.out, (S3.out.trans (StStep.of_below hb hw3)).int (own_below O3.out hb) (Nat.le_refl _) h5 HG6.out⟩
                    have := HO6.out
                    rw [List.append_assoc, ← List.replicate_succ'] at this
                    exact this
                  case measure => omega
                · have hjI : ¬ (j : Int) < (3+x) := by omega
                  obtain rfl : j = (3+x) := by omega
                  go_wp2
                  go_roundg f
                  case measure => omega
                  case rel =>
                    refine ⟨acc ++ List.replicate ((3+x)) (x0), p4, e4, A3, c3, by simp, by simpa using O3.out, H3.out, S3.out, by simp; omega, ?_⟩
                    (exact tailend TF.out hk (by simp; omega))
        by_cases h17 : v = 17
        · subst h17
          rw [if_neg (by decide), if_pos rfl] at HT2
          go_wp2_with fail
          refine (rnumber_any base s bs p2 out (most : Int) 0 3 w2 H2.out HBy.out hl (by omega)).mono ?_
          rintro ev w4 ⟨x, p4, e4, rfl, hx, hs4, st4, tk4, -⟩
          have H4 := Lib.hid hs4
          have h54 := hs4.2.2.1
          have S4 := Lib.hid (S2.out.trans st4)
          have O4 := Lib.hid (H2.out.row st4 O2.out)
          have tk4' := (tk4.resolve_right (fun h => h.1 rfl)).2
          have T4 := Lib.hid (took_num (.inr ⟨rfl, HT2.out⟩) tk4')
          have P4 := Lib.hid (show e4 = 0 → p1 < p4 from fun h0 => by
            rcases took_or tk4' with ⟨hh, he⟩ | ⟨b, _, _, he⟩
            · have := (numR_ok hh).1; omega
            · rw [if_pos rfl] at he; exact absurd (he.symm.trans h0) (errOf_ne b))
          have hxk : x ≤ 150 := by omega
          have TF := Lib.hid (show (e4 = 4 ∧ T = .bad false) ∨ (e4 = 0 ∧ (T = if n < acc.length + (3 + x) then .bad false else lensR (bitsOf bs) cs n f (acc ++ List.replicate (3 + x) 0) p4) ∧ p1 < p4) by
            rcases T4.out with ⟨a, b⟩ | ⟨a, b⟩
            · exact .inl ⟨a, b⟩
            · exact .inr ⟨a, b, P4.out a⟩)
          clear hs4 st4 tk4 tk4' H2 S2 O2 HT2 T4 P4 hx
          by_cases hbig : n < acc.length + (3+x)
          · have hbigI : (n : Int) < (acc.length : Int) + (3+x) := by omega
            go_wp2_with (go_at_call 38; refine (rfail_any base s bs p4 out (most : Int) e4 4 w4 H4.out).mono ?_; rintro ev w5 ⟨rfl, h5', s5, _⟩; have H3 := Lib.hid h5'; have S3 := Lib.hid (S4.out.trans s5); have O3 := Lib.hid (H4.out.row s5 O4.out); clear h5' s5)
            clear H4 S4 O4
            have HE := Lib.hid (show (if e4 = 0 then (4 : Int) else e4) = 4 ∧ T = .bad false by
              rcases TF.out with ⟨a, b⟩ | ⟨a, b, _⟩
              · rw [a]; exact ⟨rfl, b⟩
              · rw [if_pos hbig] at b
                rw [if_pos a]; exact ⟨rfl, b⟩)
            rw [HE.out.1] at H3
            clear TF
            go_loopg [7, 11] ((3+x)) (RLenI base s bs out p4 most 4 acc 0 (3+x) w1)
            case atStart => exact ⟨0, _, _, rfl, by omega, rfl, by simpa using O3.out, H3.out, S3.out⟩
            case round =>
              clear O3 H3 S3
              obtain ⟨j, A3, c3, rfl, hj, rfl, ho3, hs3, st3⟩ := hrel
              have O3 := Lib.hid ho3
              have H3 := Lib.hid hs3
              have S3 := Lib.hid st3
              have hw3 := hs3.2.2.1
              have hw4 := st3.size
              clear ho3 hs3 st3
              by_cases hjl : j < (3+x)
              · have hjI : (j : Int) < (3+x) := by omega
                go_wp2_with (refine app_int rfl (.tmp 72) (.tmp 74) rfl w1.heap.size _ (acc.length + j) _ wr.heap.size _ 3 rfl (O3.out.alloc _) rfl (Blk.made _ _ _) (by omega) (by simp; omega) ?_; intro g6 cap6 w6 ho6 hg6 hor6 hlt6; have HO6 := Lib.hid ho6; have HG6 := Lib.hid hg6; clear ho6 hg6 hor6 hlt6)
                go_roundg (gk - 1)
                case rel =>
                  have hb := (Below.refl wr.heap.size wr).alloc (Nat.le_refl _) (.cells #[.int .i64 (0)] 3)
                  refine ⟨j + 1, _, _, by go_num, by omega, rfl, ?_, (H3.out.below hb).int (own_below O3.out hb) h5 HG6.out, (S3.out.trans (StStep.of_below hb hw3)).int (own_below O3.out hb) (Nat.le_refl _) h5 HG6.out⟩
                  have := HO6.out
                  rw [List.append_assoc, ← List.replicate_succ'] at this
                  exact this
                case measure => omega
              · have hjI : ¬ (j : Int) < (3+x) := by omega
                obtain rfl : j = (3+x) := by omega
                go_wp2
                go_roundg f
                case measure => omega
                case rel =>
                  refine ⟨acc ++ List.replicate ((3+x)) (0), p4, 4, A3, c3, by simp, by simpa using O3.out, H3.out, S3.out, by simp; omega, ?_⟩
                  (exact .inr ⟨rfl, HE.out.2⟩)
          ·
            have hbigI : ¬ (n : Int) < (acc.length : Int) + (3+x) := by omega
            go_wp2
            rw [if_neg hbig] at TF
            have H3 := H4
            have S3 := S4
            have O3 := O4
            clear H4 S4 O4
            go_loopg [7, 11] ((3+x)) (RLenI base s bs out p4 most e4 acc 0 (3+x) w1)
            case atStart => exact ⟨0, _, _, rfl, by omega, rfl, by simpa using O3.out, H3.out, S3.out⟩
            case round =>
              clear O3 H3 S3
              obtain ⟨j, A3, c3, rfl, hj, rfl, ho3, hs3, st3⟩ := hrel
              have O3 := Lib.hid ho3
              have H3 := Lib.hid hs3
              have S3 := Lib.hid st3
              have hw3 := hs3.2.2.1
              have hw4 := st3.size
              clear ho3 hs3 st3
              by_cases hjl : j < (3+x)
              · have hjI : (j : Int) < (3+x) := by omega
                go_wp2_with (refine app_int rfl (.tmp 72) (.tmp 74) rfl w1.heap.size _ (acc.length + j) _ wr.heap.size _ 3 rfl (O3.out.alloc _) rfl (Blk.made _ _ _) (by omega) (by simp; omega) ?_; intro g6 cap6 w6 ho6 hg6 hor6 hlt6; have HO6 := Lib.hid ho6; have HG6 := Lib.hid hg6; clear ho6 hg6 hor6 hlt6)
                go_roundg (gk - 1)
                case rel =>
                  have hb := (Below.refl wr.heap.size wr).alloc (Nat.le_refl _) (.cells #[.int .i64 (0)] 3)
                  refine ⟨j + 1, _, _, by go_num, by omega, rfl, ?_, (H3.out.below hb).int (own_below O3.out hb) h5 HG6.out, (S3.out.trans (StStep.of_below hb hw3)).int (own_below O3.out hb) (Nat.le_refl _) h5 HG6.out⟩
                  have := HO6.out
                  rw [List.append_assoc, ← List.replicate_succ'] at this
                  exact this
                case measure => omega
              · have hjI : ¬ (j : Int) < (3+x) := by omega
                obtain rfl : j = (3+x) := by omega
                go_wp2
                go_roundg f
                case measure => omega
                case rel =>
                  refine ⟨acc ++ List.replicate ((3+x)) (0), p4, e4, A3, c3, by simp, by simpa using O3.out, H3.out, S3.out, by simp; omega, ?_⟩
                  (exact tailend TF.out hk (by simp; omega))
        by_cases h18 : v = 18
        · subst h18
          rw [if_neg (by decide), if_neg (by decide), if_pos rfl] at HT2
          go_wp2_with fail
          refine (rnumber_any base s bs p2 out (most : Int) 0 7 w2 H2.out HBy.out hl (by omega)).mono ?_
          rintro ev w4 ⟨x, p4, e4, rfl, hx, hs4, st4, tk4, -⟩
          have H4 := Lib.hid hs4
          have h54 := hs4.2.2.1
          have S4 := Lib.hid (S2.out.trans st4)
          have O4 := Lib.hid (H2.out.row st4 O2.out)
          have tk4' := (tk4.resolve_right (fun h => h.1 rfl)).2
          have T4 := Lib.hid (took_num (.inr ⟨rfl, HT2.out⟩) tk4')
          have P4 := Lib.hid (show e4 = 0 → p1 < p4 from fun h0 => by
            rcases took_or tk4' with ⟨hh, he⟩ | ⟨b, _, _, he⟩
            · have := (numR_ok hh).1; omega
            · rw [if_pos rfl] at he; exact absurd (he.symm.trans h0) (errOf_ne b))
          have hxk : x ≤ 150 := by omega
          have TF := Lib.hid (show (e4 = 4 ∧ T = .bad false) ∨ (e4 = 0 ∧ (T = if n < acc.length + (11 + x) then .bad false else lensR (bitsOf bs) cs n f (acc ++ List.replicate (11 + x) 0) p4) ∧ p1 < p4) by
            rcases T4.out with ⟨a, b⟩ | ⟨a, b⟩
            · exact .inl ⟨a, b⟩
            · exact .inr ⟨a, b, P4.out a⟩)
          clear hs4 st4 tk4 tk4' H2 S2 O2 HT2 T4 P4 hx
          by_cases hbig : n < acc.length + (11+x)
          · have hbigI : (n : Int) < (acc.length : Int) + (11+x) := by omega
            go_wp2_with (go_at_call 38; refine (rfail_any base s bs p4 out (most : Int) e4 4 w4 H4.out).mono ?_; rintro ev w5 ⟨rfl, h5', s5, _⟩; have H3 := Lib.hid h5'; have S3 := Lib.hid (S4.out.trans s5); have O3 := Lib.hid (H4.out.row s5 O4.out); clear h5' s5)
            clear H4 S4 O4
            have HE := Lib.hid (show (if e4 = 0 then (4 : Int) else e4) = 4 ∧ T = .bad false by
              rcases TF.out with ⟨a, b⟩ | ⟨a, b, _⟩
              · rw [a]; exact ⟨rfl, b⟩
              · rw [if_pos hbig] at b
                rw [if_pos a]; exact ⟨rfl, b⟩)
            rw [HE.out.1] at H3
            clear TF
            go_loopg [7, 11] ((11+x)) (RLenI base s bs out p4 most 4 acc 0 (11+x) w1)
            case atStart => exact ⟨0, _, _, rfl, by omega, rfl, by simpa using O3.out, H3.out, S3.out⟩
            case round =>
              clear O3 H3 S3
              obtain ⟨j, A3, c3, rfl, hj, rfl, ho3, hs3, st3⟩ := hrel
              have O3 := Lib.hid ho3
              have H3 := Lib.hid hs3
              have S3 := Lib.hid st3
              have hw3 := hs3.2.2.1
              have hw4 := st3.size
              clear ho3 hs3 st3
              by_cases hjl : j < (11+x)
              · have hjI : (j : Int) < (11+x) := by omega
                go_wp2_with (refine app_int rfl (.tmp 72) (.tmp 74) rfl w1.heap.size _ (acc.length + j) _ wr.heap.size _ 3 rfl (O3.out.alloc _) rfl (Blk.made _ _ _) (by omega) (by simp; omega) ?_; intro g6 cap6 w6 ho6 hg6 hor6 hlt6; have HO6 := Lib.hid ho6; have HG6 := Lib.hid hg6; clear ho6 hg6 hor6 hlt6)
                go_roundg (gk - 1)
                case rel =>
                  have hb := (Below.refl wr.heap.size wr).alloc (Nat.le_refl _) (.cells #[.int .i64 (0)] 3)
                  refine ⟨j + 1, _, _, by go_num, by omega, rfl, ?_, (H3.out.below hb).int (own_below O3.out hb) h5 HG6.out, (S3.out.trans (StStep.of_below hb hw3)).int (own_below O3.out hb) (Nat.le_refl _) h5 HG6.out⟩
                  have := HO6.out
                  rw [List.append_assoc, ← List.replicate_succ'] at this
                  exact this
                case measure => omega
              · have hjI : ¬ (j : Int) < (11+x) := by omega
                obtain rfl : j = (11+x) := by omega
                go_wp2
                go_roundg f
                case measure => omega
                case rel =>
                  refine ⟨acc ++ List.replicate ((11+x)) (0), p4, 4, A3, c3, by simp, by simpa using O3.out, H3.out, S3.out, by simp; omega, ?_⟩
                  (exact .inr ⟨rfl, HE.out.2⟩)
          ·
            have hbigI : ¬ (n : Int) < (acc.length : Int) + (11+x) := by omega
            go_wp2
            rw [if_neg hbig] at TF
            have H3 := H4
            have S3 := S4
            have O3 := O4
            clear H4 S4 O4
            go_loopg [7, 11] ((11+x)) (RLenI base s bs out p4 most e4 acc 0 (11+x) w1)
            case atStart => exact ⟨0, _, _, rfl, by omega, rfl, by simpa using O3.out, H3.out, S3.out⟩
            case round =>
              clear O3 H3 S3
              obtain ⟨j, A3, c3, rfl, hj, rfl, ho3, hs3, st3⟩ := hrel
              have O3 := Lib.hid ho3
              have H3 := Lib.hid hs3
              have S3 := Lib.hid st3
              have hw3 := hs3.2.2.1
              have hw4 := st3.size
              clear ho3 hs3 st3
              by_cases hjl : j < (11+x)
              · have hjI : (j : Int) < (11+x) := by omega
                go_wp2_with (refine app_int rfl (.tmp 72) (.tmp 74) rfl w1.heap.size _ (acc.length + j) _ wr.heap.size _ 3 rfl (O3.out.alloc _) rfl (Blk.made _ _ _) (by omega) (by simp; omega) ?_; intro g6 cap6 w6 ho6 hg6 hor6 hlt6; have HO6 := Lib.hid ho6; have HG6 := Lib.hid hg6; clear ho6 hg6 hor6 hlt6)
                go_roundg (gk - 1)
                case rel =>
                  have hb := (Below.refl wr.heap.size wr).alloc (Nat.le_refl _) (.cells #[.int .i64 (0)] 3)
                  refine ⟨j + 1, _, _, by go_num, by omega, rfl, ?_, (H3.out.below hb).int (own_below O3.out hb) h5 HG6.out, (S3.out.trans (StStep.of_below hb hw3)).int (own_below O3.out hb) (Nat.le_refl _) h5 HG6.out⟩
                  have := HO6.out
                  rw [List.append_assoc, ← List.replicate_succ'] at this
                  exact this
                case measure => omega
              · have hjI : ¬ (j : Int) < (11+x) := by omega
                obtain rfl : j = (11+x) := by omega
                go_wp2
                go_roundg f
                case measure => omega
                case rel =>
                  refine ⟨acc ++ List.replicate ((11+x)) (0), p4, e4, A3, c3, by simp, by simpa using O3.out, H3.out, S3.out, by simp; omega, ?_⟩
                  (exact tailend TF.out hk (by simp; omega))
        have d16 : ((v : Int) == 16) = false := by simp; omega
        have d17 : ((v : Int) == 17) = false := by simp; omega
        have d18 : ((v : Int) == 18) = false := by simp; omega
        rw [if_neg h16, if_neg h17, if_neg h18] at HT2
        have TF := Lib.hid (show T = if n < acc.length + 1 then .bad false else lensR (bitsOf bs) cs n f (acc ++ List.replicate 1 (v : Int)) p2 from HT2.out)
        clear HT2
        have H3 := H2
        have S3 := S2
        have O3 := O2
        clear H2 S2 O2
        have hbig : ¬ n < acc.length + 1 := by omega
        have hbigI : ¬ (n : Int) < (acc.length : Int) + 1 := by omega
        rw [if_neg hbig] at TF
        go_wp2
        go_loopg [7, 11] (1) (RLenI base s bs out p2 most 0 acc (v:Int) 1 w1)
        case atStart => exact ⟨0, _, _, rfl, by omega, rfl, by simpa using O3.out, H3.out, S3.out⟩
        case round =>
          clear O3 H3 S3
          obtain ⟨j, A3, c3, rfl, hj, rfl, ho3, hs3, st3⟩ := hrel
          have O3 := Lib.hid ho3
          have H3 := Lib.hid hs3
          have S3 := Lib.hid st3
          have hw3 := hs3.2.2.1
          have hw4 := st3.size
          clear ho3 hs3 st3
          by_cases hjl : j < 1
          · have hjI : (j : Int) < 1 := by omega
            go_wp2_with (refine app_int rfl (.tmp 72) (.tmp 74) rfl w1.heap.size _ (acc.length + j) _ wr.heap.size _ 3 rfl (O3.out.alloc _) rfl (Blk.made _ _ _) (by omega) (by simp; omega) ?_; intro g6 cap6 w6 ho6 hg6 hor6 hlt6; have HO6 := Lib.hid ho6; have HG6 := Lib.hid hg6; clear ho6 hg6 hor6 hlt6)
            go_roundg (gk - 1)
            case rel =>
              have hb := (Below.refl wr.heap.size wr).alloc (Nat.le_refl _) (.cells #[.int .i64 ((v:Int))] 3)
              refine ⟨j + 1, _, _, by go_num, by omega, rfl, ?_, (H3.out.below hb).int (own_below O3.out hb) h5 HG6.out, (S3.out.trans (StStep.of_below hb hw3)).int (own_below O3.out hb) (Nat.le_refl _) h5 HG6.out⟩
              have := HO6.out
              rw [List.append_assoc, ← List.replicate_succ'] at this
              exact this
            case measure => omega
          · have hjI : ¬ (j : Int) < 1 := by omega
            obtain rfl : j = 1 := by omega
            go_wp2
            go_roundg f
            case measure => omega
            case rel =>
              refine ⟨acc ++ List.replicate (1) ((v:Int)), p2, 0, A3, c3, by simp, by simpa using O3.out, H3.out, S3.out, by simp; omega, ?_⟩
              (exact .inl ⟨rfl, TF.out, (by omega), (by simp; omega)⟩)
      · have hltI : ¬ (acc.length : Int) < n := by omega
        go_wp2
        go_ret
        refine ⟨_, _, _, p1, 0, rfl, own_cap HO.out, HS.out, S1.out.trans HSt.out, ?_⟩
        obtain ⟨f, rfl⟩ : ∃ f, gk = f + 1 := ⟨gk - 1, by omega⟩
        have h1 := HTk.out
        simp only [lensR] at h1
        rw [if_pos (by omega)] at h1
        rw [h1]
        have e : acc.length = n := by omega
        exact ⟨rfl, rfl, e, by rw [← e]; exact RdI.of_own HO.out⟩
    · have HTb := Lib.hid hT
      clear hT HT
      by_cases hlt : acc.length < n
      · have hltI : (acc.length : Int) < n := by omega
        go_wp2
        go_ret
        exact ⟨_, _, _, p1, 4, rfl, own_cap HO.out, HS.out, S1.out.trans HSt.out, by rw [HTb.out]; rfl⟩
      · have hltI : ¬ (acc.length : Int) < n := by omega
        go_wp2
        go_ret
        exact ⟨_, _, _, p1, 4, rfl, own_cap HO.out, HS.out, S1.out.trans HSt.out, by rw [HTb.out]; rfl⟩
end Go.Proofs.YtlhaehefhhcgaaaDoor
namespace Go.Proofs.YtlhaehefhhcgaaaDoor
open Go.RowKit
set_option linter.unusedVariables false

def RLensNo (base s : Nat) (bs out : List Int) (p : Nat) (most e : Int) (w : World) (ev : Ending) (w' : World) : Prop :=
  ev = .returned (.slice none 0 0) ∧ RefOk w' base s bs p out most e ∧ StStep w w' base s s
def RLenX (w1 : World) (k : Nat) (sv : Value) (wr : World) : Prop := sv = .slice none 0 0 ∧ wr = w1
set_option maxHeartbeats 800000 in
set_option maxRecDepth 100000 in
theorem rlengths_no (base s b : Nat) (bs : List Int) (p : Nat) (out : List Int) (most e : Int) (n : Nat) (w : World) (h : RefOk w base s bs p out most e) (he : e ≠ 0) (hn1 : 1 ≤ n) (hn : n ≤ 1000) :
    Calls Tryd.prog 64 #[.pointer (some ⟨s, 0, none⟩), .agg #[.map (some b)], .int .i64 (n : Int)] w (RLensNo base s bs out p most e w) := by
  have h3 := h.2.2.1
  have L1 := Lib.hid ((Below.refl w.heap.size w).alloc (Nat.le_refl _) (.cells #[.map (some b)] 117))
  have H := Lib.hid (h.below L1.out)
  have S1 := Lib.hid (StStep.of_below (s := s) (r := s) L1.out h3)
  have c4 := H.out.c4
  have d1 : (e == 0) = false := by simpa using he
  have hn0 : (0 : Int) < n := by omega
  clear h
  go_enter Tryd.func64, Tryd.ntmps64
  go_wp2
  go_loopg [7] 0 (RLenX (w.alloc (.cells #[.map (some b)] 117)))
  case atStart => exact ⟨rfl, rfl⟩
  case round =>
    obtain ⟨rfl, rfl⟩ := hrel
    go_wp2
    go_ret
    exact ⟨rfl, H.out, S1.out⟩

def RShI (base s : Nat) (bs out : List Int) (p0 most cc g cap : Nat) (T : Res (List Int)) (G : List Int → Nat → Res (List Int)) (w : World) (k : Nat) (iv : Value) (wr : World) : Prop :=
  ∃ i p e sh, iv = .int .i64 ((i : Nat) : Int) ∧ i + k = cc ∧ wr.ownsRow w.heap.size 3 1 (.slice (some ⟨g, 0, none⟩) 19 cap) 19 (sh.map (Value.int .i64)) ∧ RefOk wr base s bs p out (most : Int) e ∧ StStep w wr base s s ∧
    ((e = 4 ∧ T = .bad false) ∨ (e = 0 ∧ shortsR (bitsOf bs) i p0 = .ok sh p ∧ T = (shortsR (bitsOf bs) cc p0).bind G))
theorem RefOk.intStep {w0 w w' : World} {base s p b2 n : Nat} {bs out : List Int} {most e : Int} {u : Value} {xs : List Value} (h : StStep w0 w base s s) (ho : w.ownsRow b2 3 1 u n xs) (hb2 : w0.heap.size ≤ b2) (hbase : base ≤ w0.heap.size) (hg : w.grownBy w' u.ownBlock) : StStep w0 w' base s s := h.int ho hb2 hbase hg

set_option maxHeartbeats 1600000 in
set_option maxRecDepth 100000 in
theorem rdynamic_any (base s : Nat) (bs : List Int) (p : Nat) (out : List Int) (most : Nat) (w : World) (h : RefOk w base s bs p out (most : Int) 0)
    (hB : Bytes bs) (hl : bs.length ≤ 1000000000) (hm : most ≤ 65536) (ho : out.length ≤ most) :
    Calls Tryd.prog 37 #[.pointer (some ⟨s, 0, none⟩)] w (RVoid base s bs most (dynamicR (bitsOf bs) most out p) w) := by
  have H := Lib.hid h
  have HBy := Lib.hid hB
  have h3 := h.2.2.1
  have hp := h.1
  clear h hB
  obtain ⟨T, hT⟩ : ∃ T, T = dynamicR (bitsOf bs) most out p := ⟨_, rfl⟩
  rw [← hT]
  have HT := Lib.hid (show T = (numR (bitsOf bs) p 5).bind fun n p => (numR (bitsOf bs) p 5).bind fun m p => (numR (bitsOf bs) p 4).bind fun c p =>
    if 286 < 257 + n ∨ 30 < 1 + m then .bad false else (shortsR (bitsOf bs) (4 + c) p).bind (dynG (bitsOf bs) most out n m) from hT)
  clear hT
  go_enter Tryd.func37, Tryd.ntmps37
  go_wp2_with fail
  refine (rnumber_any base s bs p out (most : Int) 0 5 w H.out HBy.out hl (by omega)).mono ?_
  rintro ev w1 ⟨x1, p1, e1, rfl, hx1, hs1, st1, tk1, -⟩
  have H1 := Lib.hid hs1
  have S1 := Lib.hid st1
  have T1 := Lib.hid (rtook_next (fun b => numR_bad) (.inr ⟨rfl, HT.out⟩) tk1)
  have hx1' : x1 < 32 := hx1
  clear hs1 st1 tk1 HT hx1
  go_wp2_with fail
  refine (rnumber_any base s bs p1 out (most : Int) e1 5 w1 H1.out HBy.out hl (by omega)).mono ?_
  rintro ev w2 ⟨x2, p2, e2, rfl, hx2, hs2, st2, tk2, -⟩
  have H2 := Lib.hid hs2
  have S2 := Lib.hid (S1.out.trans st2)
  have T2 := Lib.hid (rtook_next (fun b => numR_bad) T1.out tk2)
  have hx2' : x2 < 32 := hx2
  clear hs2 st2 tk2 T1 hx2 H1 S1
  go_wp2_with fail
  refine (rnumber_any base s bs p2 out (most : Int) e2 4 w2 H2.out HBy.out hl (by omega)).mono ?_
  rintro ev w3 ⟨x3, p3, e3, rfl, hx3, hs3, st3, tk3, -⟩
  have H3 := Lib.hid hs3
  have S3 := Lib.hid (S2.out.trans st3)
  have T3 := Lib.hid (rtook_next (fun b => numR_bad) T2.out tk3)
  have hx3' : x3 < 16 := hx3
  clear hs3 st3 tk3 T2 hx3 H2 S2
  by_cases hbig : 286 < 257 + x1 ∨ 30 < 1 + x2
  · have HE := Lib.hid (show (if e3 = 0 then (4 : Int) else e3) = 4 ∧ T = .bad false by
      rcases T3.out with ⟨a, b⟩ | ⟨a, b⟩
      · rw [a]; exact ⟨rfl, b⟩
      · rw [if_pos hbig] at b
        rw [if_pos a]; exact ⟨rfl, b⟩)
    have T4 := Lib.hid (show ((4 : Int) = 4 ∧ T = .bad false) ∨ ((4 : Int) = 0 ∧ T = (shortsR (bitsOf bs) (4 + x3) p3).bind (dynG (bitsOf bs) most out x1 x2)) from .inl ⟨rfl, HE.out.2⟩)
    by_cases hb1 : 286 < 257 + x1
    · have hb1I : (286 : Int) < 257 + (x1 : Int) := by omega
      clear hbig
      go_wp2_with fail
      refine (rfail_any base s bs p3 out (most : Int) e3 4 w3 H3.out).mono ?_
      rintro ev w4 ⟨rfl, h5', s5, _⟩
      rw [HE.out.1] at h5'
      have H4 := Lib.hid h5'
      have S4 := Lib.hid (S3.out.trans s5)
      clear h5' s5 H3 S3 T3 HE
      go_wp2_with fail
      refine (rorder_any w4).mono ?_
      rintro ev w5 ⟨go, rfl, ko, hgo, hb5⟩
      have H5 := Lib.hid (H4.out.below hb5)
      have S5 := Lib.hid (S4.out.trans (StStep.of_below hb5 H4.out.2.2.1))
      have KO5 := Lib.hid ko
      clear ko hb5 H4 S4
      have hw5 := S5.out.size
      have h55 := H5.out.2.2.1
      go_wp2_with (refine mk_ints rfl (.const (.int .i64 19)) (.const (.int .i64 19)) rfl w5.heap.size 19 _ _ rfl rfl rfl rfl (by omega) (Nat.le_refl _) ?_; intro w9 ho9 hg9; have O9 := Lib.hid ho9; have G9 := Lib.hid hg9; clear ho9 hg9)
      have B9 := Lib.hid (bl_n (Below.refl _ _) G9.out)
      have H9 := Lib.hid (H5.out.below B9.out)
      have S9 := Lib.hid (StStep.of_below (s := s) (r := s) B9.out h55)
      clear G9
      go_loopg [7] (4 + x3) (RShI base s bs out p3 most (4 + x3) w5.heap.size 19 T (dynG (bitsOf bs) most out x1 x2) w5)
      case atStart =>
        refine ⟨0, p3, 4, List.replicate 19 0, rfl, by omega, by simpa using O9.out, H9.out, S9.out, ?_⟩
        rcases T4.out with h | ⟨a, b⟩
        · first | exact .inl h | exact .inl ⟨rfl, h.2⟩
        · exact .inr ⟨a, rfl, b⟩
      case round =>
        clear O9 H9 S9 T4 B9
        obtain ⟨i, p5, e5, sh, rfl, hi, ho5, hs5', st5, hT5⟩ := hrel
        have hshl : sh.length = 19 := by simpa using ho5.1
        have O6 := Lib.hid ho5
        have H6 := Lib.hid hs5'
        have S6 := Lib.hid st5
        have T5 := Lib.hid hT5
        have KO6 := Lib.hid (H5.out.keepBlk st5 KO5.out (by decide) (by decide))
        have h56 := hs5'.2.2.1
        clear ho5 hs5' st5 hT5
        by_cases hlt : i < 4 + x3
        · have hltI : (i : Int) < 4 + (x3 : Int) := by omega
          have cx := tab_cell KO6.out (j := i) (show i < 19 by omega)
          have hob := ord_bd i (by omega)
          obtain ⟨o, hoE⟩ : ∃ o : Nat, orderL.getD i 0 = (o : Int) := ⟨(orderL.getD i 0).toNat, by omega⟩
          rw [hoE] at cx hob
          have ho19 : o < 19 := by omega
          have hoI : (o : Int) < 19 := by omega
          have hi19 : (i : Int) < 19 := by omega
          have HOE := Lib.hid hoE
          clear hoE hob
          go_wp2
          refine wp_region_qs (fun j w' => j ≤ 1 → w'.cell? ⟨go, i, none⟩ = some (.int .i64 (o : Int))) [(0, some 1), (1, some 1), (2, some 1), (3, some 1), (4, some 1), (5, some 0), (6, none), (7, some 1), (8, none)] (by kernel_rfl) (by kernel_rfl) (by kernel_rfl) (by kernel_rfl) (by kernel_rfl) (fun _ _ _ _ _ h => h) (fun _ => cx) ?_
          simp only [List.map_cons, List.map_nil, List.getD_cons_succ, List.getD_cons_zero]
          (repeat (first | (refine qs_now (v := ?_) (by rfl) ?_ ?_; rotate_left 1; (· (intro w' hS; go_simp; (try (simp only [↓IntWalk.iteOmega]; go_simp)); (try simp (disch := omega) only [IntWalk.i64_in]); try with_reducible rfl)); simp only [Act.put, List.setIfInBounds_toArray, List.set_cons_zero, List.set_cons_succ]) | (refine qs_run (v := ?_) (by rfl) ?_ ?_; rotate_left 1; (· (intro j w' hS; go_simp; (try (simp only [↓IntWalk.iteOmega]; go_simp)); (try simp (disch := omega) only [IntWalk.i64_in]); try with_reducible rfl)); simp only [Act.put, List.setIfInBounds_toArray, List.set_cons_zero, List.set_cons_succ]) | (refine qs_mid (v := ?_) (by rfl) ?_ ?_; rotate_left 1; (· (intro j w' hj1 hj2 hS; go_simp; (try (simp only [↓IntWalk.iteOmega]; go_simp)); (try simp (disch := omega) only [IntWalk.i64_in]); try with_reducible rfl)); simp only [Act.put, List.setIfInBounds_toArray, List.set_cons_zero, List.set_cons_succ]) | (refine qs_skip (by rfl) ?_; simp only [Act.put, List.setIfInBounds_toArray, List.set_cons_zero, List.set_cons_succ])))
          refine qs_act ?_
          go_wp2_with fail
          have hdr := (Below.refl wr.heap.size wr).drew
          refine (rnumber_any base s bs p5 out (most : Int) e5 3 wr.drew (H6.out.below hdr) HBy.out hl (by omega)).mono ?_
          rintro ev w6 ⟨x, p6, e6, rfl, hx, hs6, st6, tk6, -⟩
          have st66 := (StStep.of_below (s := s) (r := s) hdr h56).trans st6
          have O7 := Lib.hid (H6.out.row st66 O6.out)
          have H7 := Lib.hid hs6
          have S7 := Lib.hid (S6.out.trans st66)
          have T6 := Lib.hid tk6
          have KO7 := Lib.hid (H6.out.keepBlk st66 KO6.out (by decide) (by decide))
          have cx7 := tab_cell KO7.out (j := i) (show i < 19 by omega)
          rw [HOE.out] at cx7
          have q1 := O7.out.cellAt o (by omega)
          have q2 := O7.out.frozenAt o
          rw [List.getElem?_map, List.getElem?_eq_getElem (by omega)] at q1
          simp only [Option.map_some] at q1
          clear hs6 st6 tk6 st66 hdr O6 S6 KO6 cx H6 KO7
          go_wp2
          refine ⟨fun _ => cx7, ?_⟩
          (repeat (first | (refine qs_now (v := ?_) (by rfl) ?_ ?_; rotate_left 1; (· (intro w' hS; go_simp; (try (simp only [↓IntWalk.iteOmega]; go_simp)); (try simp (disch := omega) only [IntWalk.i64_in]); try with_reducible rfl)); simp only [Act.put, List.setIfInBounds_toArray, List.set_cons_zero, List.set_cons_succ]) | (refine qs_run (v := ?_) (by rfl) ?_ ?_; rotate_left 1; (· (intro j w' hS; go_simp; (try (simp only [↓IntWalk.iteOmega]; go_simp)); (try simp (disch := omega) only [IntWalk.i64_in]); try with_reducible rfl)); simp only [Act.put, List.setIfInBounds_toArray, List.set_cons_zero, List.set_cons_succ]) | (refine qs_mid (v := ?_) (by rfl) ?_ ?_; rotate_left 1; (· (intro j w' hj1 hj2 hS; go_simp; (try (simp only [↓IntWalk.iteOmega]; go_simp)); (try simp (disch := omega) only [IntWalk.i64_in]); try with_reducible rfl)); simp only [Act.put, List.setIfInBounds_toArray, List.set_cons_zero, List.set_cons_succ]) | (refine qs_skip (by rfl) ?_; simp only [Act.put, List.setIfInBounds_toArray, List.set_cons_zero, List.set_cons_succ])))
          refine qs_act ?_
          go_wp2
          refine ⟨fun h => absurd h (by omega), ?_⟩
          refine qs_nil ?_
          go_wp2
          go_roundg (gk - 1)
          case measure => omega
          case rel =>
            have hst := O7.out.stored o (.int .i64 (x : Int))
            refine ⟨i + 1, p6, e6, sh.set o (x : Int), by go_num, by omega, ?_, H7.out.int O7.out h55 hst.2, S7.out.int O7.out (Nat.le_refl _) h55 hst.2, ?_⟩
            · rw [List.map_set]; exact hst.1
            · have ho2 : (orderL.getD i 0).toNat = o := by rw [HOE.out]; rfl
              rcases T5.out with ⟨a, b⟩ | ⟨a, b, c⟩
              · left
                refine ⟨?_, b⟩
                rcases T6.out with ⟨h, _⟩ | ⟨_, _, h⟩
                · rw [a] at h; cases h
                · rw [h, a]
              · subst a
                rcases took_or (T6.out.resolve_right (fun h => h.1 rfl)).2 with ⟨k, h⟩ | ⟨b', k, _, h⟩
                · exact .inr ⟨h, by rw [shortsR, b]; simp only [Res.bind]; rw [k]; simp only [ho2], c⟩
                · obtain rfl := numR_bad k
                  left
                  refine ⟨h, ?_⟩
                  have hbad : shortsR (bitsOf bs) (i + 1) p3 = .bad false := by rw [shortsR, b]; simp only [Res.bind]; rw [k]
                  have := shortsR_bad hbad (4 + x3 - (i + 1))
                  rw [show i + 1 + (4 + x3 - (i + 1)) = 4 + x3 by omega] at this
                  rw [c, this]; rfl
        · have hltI : ¬ (i : Int) < 4 + (x3 : Int) := by omega
          obtain rfl : i = 4 + x3 := by omega
          have T6 := Lib.hid (show (e5 = 4 ∧ T = .bad false) ∨ (e5 = 0 ∧ T = dynG (bitsOf bs) most out x1 x2 sh p5) by
            rcases T5.out with h | ⟨a, b, c⟩
            · exact .inl h
            · exact .inr ⟨a, by rw [c, b]; rfl⟩)
          clear T5
          go_wp2_with fail
          refine (made_any sh _ 19 19 wr (RdI.of_own O6.out) (by omega)).mono ?_
          rintro ev w6 ⟨bt, rfl, hbt, htr, hb6⟩
          obtain ⟨w7, hw7⟩ : ∃ w7, w7 = w6.alloc (.cells #[.map (some bt)] 117) := ⟨_, rfl⟩
          have L7 := Lib.hid (show Below w6.heap.size w6 w7 by rw [hw7]; exact (Below.refl _ _).alloc (Nat.le_refl _) _)
          have KT7 := Lib.hid (show Blk w7 w6.heap.size 117 #[.map (some bt)] by rw [hw7]; exact Blk.made _ _ _)
          have B7 := Lib.hid (below_chain hb6 L7.out)
          have H7 := Lib.hid (H6.out.below B7.out)
          have S7 := Lib.hid ((S5.out.trans S6.out).trans (StStep.of_below B7.out h56))
          have TR7 := Lib.hid (show countsOk sh = true → TreeOk w7 bt sh from fun hh => (htr hh).below L7.out)
          have HW7 := Lib.hid hw7
          have kt := KT7.out.cell (i := 0) rfl
          clear htr hb6 hw7 L7 B7 H6 S6 O6 KO6
          cases hx0 : countsOk sh
          · have HE := Lib.hid (show (if e5 = 0 then (4 : Int) else e5) = 4 ∧ T = .bad false by
              rcases T6.out with ⟨a, b⟩ | ⟨a, b⟩
              · rw [a]; exact ⟨rfl, b⟩
              · rw [dynG, if_neg (by rw [hx0]; simp)] at b
                rw [if_pos a]; exact ⟨rfl, b⟩)
            clear hx0 T6 TR7
            go_wp2_with fail
            rw [← HW7.out]
            refine (rfail_any base s bs p5 out (most : Int) e5 4 w7 H7.out).mono ?_
            rintro ev w8 ⟨rfl, h7', s7, _⟩
            rw [HE.out.1] at h7'
            have HTb := Lib.hid HE.out.2
            have H8 := Lib.hid h7'
            have S8 := Lib.hid (S7.out.trans s7)
            have KT8 := H7.out.keepBlk s7 KT7.out (by decide) (by decide)
            have kt8 := KT8.cell (i := 0) rfl
            clear h7' s7 KT8 H7 S7 HE HW7 kt KT7
            go_wp2_with fail
            rw [show (257 + (x1 : Int) + (1 + (x2 : Int))) = ((257 + x1 + (1 + x2) : Nat) : Int) by omega]
            refine (rlengths_no base s bt bs p5 out (most : Int) 4 (257 + x1 + (1 + x2)) w8 H8.out (by omega) (by omega) (by omega)).mono ?_
            rintro ev wz ⟨rfl, hsz, stz⟩
            have HZ := Lib.hid hsz
            have SZ := Lib.hid (S8.out.trans stz)
            have c4z := hsz.c4
            clear hsz stz
            go_wp2
            go_end0
            exact ⟨p5, out, 4, rfl, HZ.out, SZ.out, ho, by rw [HTb.out]; rfl⟩
          · have HX0 := Lib.hid hx0
            rcases T6.out with ⟨rfl, hTb⟩ | ⟨rfl, hTk⟩
            · have HTb := Lib.hid hTb
              clear hTb T6 hx0 TR7
              go_wp2_with fail
              rw [← HW7.out]
              have H8 := H7
              have S8 := S7
              clear H7 S7
              rw [show (257 + (x1 : Int) + (1 + (x2 : Int))) = ((257 + x1 + (1 + x2) : Nat) : Int) by omega]
              refine (rlengths_no base s bt bs p5 out (most : Int) 4 (257 + x1 + (1 + x2)) w7 H8.out (by omega) (by omega) (by omega)).mono ?_
              rintro ev wz ⟨rfl, hsz, stz⟩
              have HZ := Lib.hid hsz
              have SZ := Lib.hid (S8.out.trans stz)
              have c4z := hsz.c4
              clear hsz stz
              go_wp2
              go_end0
              exact ⟨p5, out, 4, rfl, HZ.out, SZ.out, ho, by rw [HTb.out]; rfl⟩
            ·
              rw [dynG, if_pos hx0, bitsOf_len] at hTk
              have HTk := Lib.hid hTk
              have TRx := Lib.hid (TR7.out hx0)
              clear hTk T6 hx0 TR7
              have hnm : (257 + x1 + (1 + x2) : Nat) ≤ 1000 := by omega
              go_wp2_with fail
              rw [← HW7.out]
              rw [show (257 + (x1 : Int) + (1 + (x2 : Int))) = ((257 + x1 + (1 + x2) : Nat) : Int) by omega]
              refine (rlengths_any base s bt bs sh p5 out most (257 + x1 + (1 + x2)) w7 H7.out TRx.out HX0.out HBy.out hl hnm).mono ?_
              rintro ev w8 ⟨A7, m7, c7, p7, e7, rfl, hc7, hs7, st7, ag7⟩
              have H8 := Lib.hid hs7
              have S8 := Lib.hid (S7.out.trans st7)
              have AG := Lib.hid ag7
              have c4' := hs7.c4
              have h58 := hs7.2.2.1
              clear hs7 st7 ag7 H7 S7 TRx kt KT7 HW7
              rcases hlr : lensR (bitsOf bs) sh (257 + x1 + (1 + x2)) (8 * bs.length + 1) [] p5 with ⟨all, q⟩ | b
              · rw [hlr] at AG HTk
                clear hlr
                obtain ⟨he7, hpq, hm7, hrd⟩ := AG.out
                subst he7 hpq hm7
                simp only [Res.bind] at HTk
                clear AG
                obtain ⟨ba, offa, rfl, hblt, hcells⟩ := hrd.2 (by omega)
                have HRd := Lib.hid hrd
                have ca := hcells 256 (by omega)
                clear hcells hrd
                by_cases ha0 : all.getD 256 0 = 0
                · rw [ha0] at ca
                  rw [if_pos ha0] at HTk
                  clear ha0
                  go_wp2_with fail
                  refine (rfail_any base s bs p7 out (most : Int) 0 4 w8 H8.out).mono ?_
                  rintro ev w9 ⟨rfl, h5', s5, _⟩
                  rw [if_pos rfl] at h5'
                  have H9 := Lib.hid h5'
                  have S9 := Lib.hid (S8.out.trans s5)
                  clear h5' s5
                  go_wp2
                  go_end0
                  exact ⟨p7, out, 4, rfl, H9.out, S9.out, ho, by rw [HTk.out]; rfl⟩
                · rw [if_neg ha0] at HTk
                  generalize all.getD 256 0 = a0 at *
                  have ha0' : (a0 == 0) = false := by simpa using ha0
                  clear ha0
                  have f1 : (0 : Int) ≤ 257 + (x1 : Int) := by omega
                  have f2 : (257 : Int) + (x1 : Int) ≤ c7 := by omega
                  have f3 : (257 : Int) + (x1 : Int) ≤ ((257 + x1 + (1 + x2) : Nat) : Int) := by omega
                  have f4 : 257 + x1 ≠ c7 := by omega
                  go_wp2
                  refine wp_region_qs (fun _ _ => True) [(0, some 0), (1, some 1), (2, some 1), (3, some 0), (4, some 1), (5, some 1), (6, some 0), (7, none)] (by kernel_rfl) (by kernel_rfl) (by kernel_rfl) (by kernel_rfl) (by kernel_rfl) (fun _ _ _ _ _ h => h) trivial ?_
                  simp only [List.map_cons, List.map_nil, List.getD_cons_succ, List.getD_cons_zero]
                  (repeat (first | (refine qs_now (v := ?_) (by rfl) ?_ ?_; rotate_left 1; (· (intro w' hS; go_simp; (try (simp only [↓IntWalk.iteOmega]; go_simp)); (try simp (disch := omega) only [IntWalk.i64_in]); try with_reducible rfl)); simp only [Act.put, List.setIfInBounds_toArray, List.set_cons_zero, List.set_cons_succ]) | (refine qs_run (v := ?_) (by rfl) ?_ ?_; rotate_left 1; (· (intro j w' hS; go_simp; (try (simp only [↓IntWalk.iteOmega]; go_simp)); (try simp (disch := omega) only [IntWalk.i64_in]); try with_reducible rfl)); simp only [Act.put, List.setIfInBounds_toArray, List.set_cons_zero, List.set_cons_succ]) | (refine qs_mid (v := ?_) (by rfl) ?_ ?_; rotate_left 1; (· (intro j w' hj1 hj2 hS; go_simp; (try (simp only [↓IntWalk.iteOmega]; go_simp)); (try simp (disch := omega) only [IntWalk.i64_in]); try with_reducible rfl)); simp only [Act.put, List.setIfInBounds_toArray, List.set_cons_zero, List.set_cons_succ]) | (refine qs_skip (by rfl) ?_; simp only [Act.put, List.setIfInBounds_toArray, List.set_cons_zero, List.set_cons_succ])))
                  refine qs_act ?_
                  go_wp2_with fail
                  have hdr := (Below.refl w8.heap.size w8).drew
                  have hr1 := rd_take (HRd.out.below hdr) (257 + x1) (by omega)
                  have hr2 := rd_from (HRd.out.below hdr) (257 + x1) (by omega)
                  refine (rcoded_any base s bs (all.take (257 + x1)) (all.drop (257 + x1)) p7 out most _ _ _ _ c7 (c7 - (257 + x1)) w8.drew (H8.out.below hdr) hr1 hr2 (by omega) (by omega) HBy.out hl hm ho).mono ?_
                  rintro ev w9 ⟨p8, o8, e8, rfl, hs8, st8, ho8, ag8⟩
                  rw [← HTk.out] at ag8
                  have H9 := Lib.hid hs8
                  have S9 := Lib.hid (S8.out.trans ((StStep.of_below hdr h58).trans st8))
                  have A8 := Lib.hid ag8
                  clear hs8 st8 ag8 hr1 hr2
                  go_wp2
                  refine ⟨trivial, ?_⟩
                  refine qs_nil ?_
                  go_wp2
                  go_end0
                  exact ⟨p8, o8, e8, rfl, H9.out, S9.out, ho8, A8.out⟩
              · rw [hlr] at AG HTk
                clear hlr
                have he7 : e7 = errOf b := AG.out
                have hne := errOf_ne b
                have HE7 := Lib.hid he7
                have hne7 : (e7 != 0) = true := by rw [he7]; simpa using hne
                clear he7 hne AG
                go_wp2
                go_end0
                exact ⟨p7, out, e7, rfl, H8.out, S8.out, ho, by rw [HTk.out]; exact HE7.out⟩
    · have hb1I : ¬ (286 : Int) < 257 + (x1 : Int) := by omega
      have hb1D : decide ((286 : Int) < 257 + (x1 : Int)) = false := by simpa using hb1I
      have hb2I : (30 : Int) < 1 + (x2 : Int) := by omega
      clear hbig
      go_wp2_with fail
      refine (rfail_any base s bs p3 out (most : Int) e3 4 w3 H3.out).mono ?_
      rintro ev w4 ⟨rfl, h5', s5, _⟩
      rw [HE.out.1] at h5'
      have H4 := Lib.hid h5'
      have S4 := Lib.hid (S3.out.trans s5)
      clear h5' s5 H3 S3 T3 HE
      go_wp2_with fail
      refine (rorder_any w4).mono ?_
      rintro ev w5 ⟨go, rfl, ko, hgo, hb5⟩
      have H5 := Lib.hid (H4.out.below hb5)
      have S5 := Lib.hid (S4.out.trans (StStep.of_below hb5 H4.out.2.2.1))
      have KO5 := Lib.hid ko
      clear ko hb5 H4 S4
      have hw5 := S5.out.size
      have h55 := H5.out.2.2.1
      go_wp2_with (refine mk_ints rfl (.const (.int .i64 19)) (.const (.int .i64 19)) rfl w5.heap.size 19 _ _ rfl rfl rfl rfl (by omega) (Nat.le_refl _) ?_; intro w9 ho9 hg9; have O9 := Lib.hid ho9; have G9 := Lib.hid hg9; clear ho9 hg9)
      have B9 := Lib.hid (bl_n (Below.refl _ _) G9.out)
      have H9 := Lib.hid (H5.out.below B9.out)
      have S9 := Lib.hid (StStep.of_below (s := s) (r := s) B9.out h55)
      clear G9
      go_loopg [7] (4 + x3) (RShI base s bs out p3 most (4 + x3) w5.heap.size 19 T (dynG (bitsOf bs) most out x1 x2) w5)
      case atStart =>
        refine ⟨0, p3, 4, List.replicate 19 0, rfl, by omega, by simpa using O9.out, H9.out, S9.out, ?_⟩
        rcases T4.out with h | ⟨a, b⟩
        · first | exact .inl h | exact .inl ⟨rfl, h.2⟩
        · exact .inr ⟨a, rfl, b⟩
      case round =>
        clear O9 H9 S9 T4 B9
        obtain ⟨i, p5, e5, sh, rfl, hi, ho5, hs5', st5, hT5⟩ := hrel
        have hshl : sh.length = 19 := by simpa using ho5.1
        have O6 := Lib.hid ho5
        have H6 := Lib.hid hs5'
        have S6 := Lib.hid st5
        have T5 := Lib.hid hT5
        have KO6 := Lib.hid (H5.out.keepBlk st5 KO5.out (by decide) (by decide))
        have h56 := hs5'.2.2.1
        clear ho5 hs5' st5 hT5
        by_cases hlt : i < 4 + x3
        · have hltI : (i : Int) < 4 + (x3 : Int) := by omega
          have cx := tab_cell KO6.out (j := i) (show i < 19 by omega)
          have hob := ord_bd i (by omega)
          obtain ⟨o, hoE⟩ : ∃ o : Nat, orderL.getD i 0 = (o : Int) := ⟨(orderL.getD i 0).toNat, by omega⟩
          rw [hoE] at cx hob
          have ho19 : o < 19 := by omega
          have hoI : (o : Int) < 19 := by omega
          have hi19 : (i : Int) < 19 := by omega
          have HOE := Lib.hid hoE
          clear hoE hob
          go_wp2
          refine wp_region_qs (fun j w' => j ≤ 1 → w'.cell? ⟨go, i, none⟩ = some (.int .i64 (o : Int))) [(0, some 1), (1, some 1), (2, some 1), (3, some 1), (4, some 1), (5, some 0), (6, none), (7, some 1), (8, none)] (by kernel_rfl) (by kernel_rfl) (by kernel_rfl) (by kernel_rfl) (by kernel_rfl) (fun _ _ _ _ _ h => h) (fun _ => cx) ?_
          simp only [List.map_cons, List.map_nil, List.getD_cons_succ, List.getD_cons_zero]
          (repeat (first | (refine qs_now (v := ?_) (by rfl) ?_ ?_; rotate_left 1; (· (intro w' hS; go_simp; (try (simp only [↓IntWalk.iteOmega]; go_simp)); (try simp (disch := omega) only [IntWalk.i64_in]); try with_reducible rfl)); simp only [Act.put, List.setIfInBounds_toArray, List.set_cons_zero, List.set_cons_succ]) | (refine qs_run (v := ?_) (by rfl) ?_ ?_; rotate_left 1; (· (intro j w' hS; go_simp; (try (simp only [↓IntWalk.iteOmega]; go_simp)); (try simp (disch := omega) only [IntWalk.i64_in]); try with_reducible rfl)); simp only [Act.put, List.setIfInBounds_toArray, List.set_cons_zero, List.set_cons_succ]) | (refine qs_mid (v := ?_) (by rfl) ?_ ?_; rotate_left 1; (· (intro j w' hj1 hj2 hS; go_simp; (try (simp only [↓IntWalk.iteOmega]; go_simp)); (try simp (disch := omega) only [IntWalk.i64_in]); try with_reducible rfl)); simp only [Act.put, List.setIfInBounds_toArray, List.set_cons_zero, List.set_cons_succ]) | (refine qs_skip (by rfl) ?_; simp only [Act.put, List.setIfInBounds_toArray, List.set_cons_zero, List.set_cons_succ])))
          refine qs_act ?_
          go_wp2_with fail
          have hdr := (Below.refl wr.heap.size wr).drew
          refine (rnumber_any base s bs p5 out (most : Int) e5 3 wr.drew (H6.out.below hdr) HBy.out hl (by omega)).mono ?_
          rintro ev w6 ⟨x, p6, e6, rfl, hx, hs6, st6, tk6, -⟩
          have st66 := (StStep.of_below (s := s) (r := s) hdr h56).trans st6
          have O7 := Lib.hid (H6.out.row st66 O6.out)
          have H7 := Lib.hid hs6
          have S7 := Lib.hid (S6.out.trans st66)
          have T6 := Lib.hid tk6
          have KO7 := Lib.hid (H6.out.keepBlk st66 KO6.out (by decide) (by decide))
          have cx7 := tab_cell KO7.out (j := i) (show i < 19 by omega)
          rw [HOE.out] at cx7
          have q1 := O7.out.cellAt o (by omega)
          have q2 := O7.out.frozenAt o
          rw [List.getElem?_map, List.getElem?_eq_getElem (by omega)] at q1
          simp only [Option.map_some] at q1
          clear hs6 st6 tk6 st66 hdr O6 S6 KO6 cx H6 KO7
          go_wp2
          refine ⟨fun _ => cx7, ?_⟩
          (repeat (first | (refine qs_now (v := ?_) (by rfl) ?_ ?_; rotate_left 1; (· (intro w' hS; go_simp; (try (simp only [↓IntWalk.iteOmega]; go_simp)); (try simp (disch := omega) only [IntWalk.i64_in]); try with_reducible rfl)); simp only [Act.put, List.setIfInBounds_toArray, List.set_cons_zero, List.set_cons_succ]) | (refine qs_run (v := ?_) (by rfl) ?_ ?_; rotate_left 1; (· (intro j w' hS; go_simp; (try (simp only [↓IntWalk.iteOmega]; go_simp)); (try simp (disch := omega) only [IntWalk.i64_in]); try with_reducible rfl)); simp only [Act.put, List.setIfInBounds_toArray, List.set_cons_zero, List.set_cons_succ]) | (refine qs_mid (v := ?_) (by rfl) ?_ ?_; rotate_left 1; (· (intro j w' hj1 hj2 hS; go_simp; (try (simp only [↓IntWalk.iteOmega]; go_simp)); (try simp (disch := omega) only [IntWalk.i64_in]); try with_reducible rfl)); simp only [Act.put, List.setIfInBounds_toArray, List.set_cons_zero, List.set_cons_succ]) | (refine qs_skip (by rfl) ?_; simp only [Act.put, List.setIfInBounds_toArray, List.set_cons_zero, List.set_cons_succ])))
          refine qs_act ?_
          go_wp2
          refine ⟨fun h => absurd h (by omega), ?_⟩
          refine qs_nil ?_
          go_wp2
          go_roundg (gk - 1)
          case measure => omega
          case rel =>
            have hst := O7.out.stored o (.int .i64 (x : Int))
            refine ⟨i + 1, p6, e6, sh.set o (x : Int), by go_num, by omega, ?_, H7.out.int O7.out h55 hst.2, S7.out.int O7.out (Nat.le_refl _) h55 hst.2, ?_⟩
            · rw [List.map_set]; exact hst.1
            · have ho2 : (orderL.getD i 0).toNat = o := by rw [HOE.out]; rfl
              rcases T5.out with ⟨a, b⟩ | ⟨a, b, c⟩
              · left
                refine ⟨?_, b⟩
                rcases T6.out with ⟨h, _⟩ | ⟨_, _, h⟩
                · rw [a] at h; cases h
                · rw [h, a]
              · subst a
                rcases took_or (T6.out.resolve_right (fun h => h.1 rfl)).2 with ⟨k, h⟩ | ⟨b', k, _, h⟩
                · exact .inr ⟨h, by rw [shortsR, b]; simp only [Res.bind]; rw [k]; simp only [ho2], c⟩
                · obtain rfl := numR_bad k
                  left
                  refine ⟨h, ?_⟩
                  have hbad : shortsR (bitsOf bs) (i + 1) p3 = .bad false := by rw [shortsR, b]; simp only [Res.bind]; rw [k]
                  have := shortsR_bad hbad (4 + x3 - (i + 1))
                  rw [show i + 1 + (4 + x3 - (i + 1)) = 4 + x3 by omega] at this
                  rw [c, this]; rfl
        · have hltI : ¬ (i : Int) < 4 + (x3 : Int) := by omega
          obtain rfl : i = 4 + x3 := by omega
          have T6 := Lib.hid (show (e5 = 4 ∧ T = .bad false) ∨ (e5 = 0 ∧ T = dynG (bitsOf bs) most out x1 x2 sh p5) by
            rcases T5.out with h | ⟨a, b, c⟩
            · exact .inl h
            · exact .inr ⟨a, by rw [c, b]; rfl⟩)
          clear T5
          go_wp2_with fail
          refine (made_any sh _ 19 19 wr (RdI.of_own O6.out) (by omega)).mono ?_
          rintro ev w6 ⟨bt, rfl, hbt, htr, hb6⟩
          obtain ⟨w7, hw7⟩ : ∃ w7, w7 = w6.alloc (.cells #[.map (some bt)] 117) := ⟨_, rfl⟩
          have L7 := Lib.hid (show Below w6.heap.size w6 w7 by rw [hw7]; exact (Below.refl _ _).alloc (Nat.le_refl _) _)
          have KT7 := Lib.hid (show Blk w7 w6.heap.size 117 #[.map (some bt)] by rw [hw7]; exact Blk.made _ _ _)
          have B7 := Lib.hid (below_chain hb6 L7.out)
          have H7 := Lib.hid (H6.out.below B7.out)
          have S7 := Lib.hid ((S5.out.trans S6.out).trans (StStep.of_below B7.out h56))
          have TR7 := Lib.hid (show countsOk sh = true → TreeOk w7 bt sh from fun hh => (htr hh).below L7.out)
          have HW7 := Lib.hid hw7
          have kt := KT7.out.cell (i := 0) rfl
          clear htr hb6 hw7 L7 B7 H6 S6 O6 KO6
          cases hx0 : countsOk sh
          · have HE := Lib.hid (show (if e5 = 0 then (4 : Int) else e5) = 4 ∧ T = .bad false by
              rcases T6.out with ⟨a, b⟩ | ⟨a, b⟩
              · rw [a]; exact ⟨rfl, b⟩
              · rw [dynG, if_neg (by rw [hx0]; simp)] at b
                rw [if_pos a]; exact ⟨rfl, b⟩)
            clear hx0 T6 TR7
            go_wp2_with fail
            rw [← HW7.out]
            refine (rfail_any base s bs p5 out (most : Int) e5 4 w7 H7.out).mono ?_
            rintro ev w8 ⟨rfl, h7', s7, _⟩
            rw [HE.out.1] at h7'
            have HTb := Lib.hid HE.out.2
            have H8 := Lib.hid h7'
            have S8 := Lib.hid (S7.out.trans s7)
            have KT8 := H7.out.keepBlk s7 KT7.out (by decide) (by decide)
            have kt8 := KT8.cell (i := 0) rfl
            clear h7' s7 KT8 H7 S7 HE HW7 kt KT7
            go_wp2_with fail
            rw [show (257 + (x1 : Int) + (1 + (x2 : Int))) = ((257 + x1 + (1 + x2) : Nat) : Int) by omega]
            refine (rlengths_no base s bt bs p5 out (most : Int) 4 (257 + x1 + (1 + x2)) w8 H8.out (by omega) (by omega) (by omega)).mono ?_
            rintro ev wz ⟨rfl, hsz, stz⟩
            have HZ := Lib.hid hsz
            have SZ := Lib.hid (S8.out.trans stz)
            have c4z := hsz.c4
            clear hsz stz
            go_wp2
            go_end0
            exact ⟨p5, out, 4, rfl, HZ.out, SZ.out, ho, by rw [HTb.out]; rfl⟩
          · have HX0 := Lib.hid hx0
            rcases T6.out with ⟨rfl, hTb⟩ | ⟨rfl, hTk⟩
            · have HTb := Lib.hid hTb
              clear hTb T6 hx0 TR7
              go_wp2_with fail
              rw [← HW7.out]
              have H8 := H7
              have S8 := S7
              clear H7 S7
              rw [show (257 + (x1 : Int) + (1 + (x2 : Int))) = ((257 + x1 + (1 + x2) : Nat) : Int) by omega]
              refine (rlengths_no base s bt bs p5 out (most : Int) 4 (257 + x1 + (1 + x2)) w7 H8.out (by omega) (by omega) (by omega)).mono ?_
              rintro ev wz ⟨rfl, hsz, stz⟩
              have HZ := Lib.hid hsz
              have SZ := Lib.hid (S8.out.trans stz)
              have c4z := hsz.c4
              clear hsz stz
              go_wp2
              go_end0
              exact ⟨p5, out, 4, rfl, HZ.out, SZ.out, ho, by rw [HTb.out]; rfl⟩
            ·
              rw [dynG, if_pos hx0, bitsOf_len] at hTk
              have HTk := Lib.hid hTk
              have TRx := Lib.hid (TR7.out hx0)
              clear hTk T6 hx0 TR7
              have hnm : (257 + x1 + (1 + x2) : Nat) ≤ 1000 := by omega
              go_wp2_with fail
              rw [← HW7.out]
              rw [show (257 + (x1 : Int) + (1 + (x2 : Int))) = ((257 + x1 + (1 + x2) : Nat) : Int) by omega]
              refine (rlengths_any base s bt bs sh p5 out most (257 + x1 + (1 + x2)) w7 H7.out TRx.out HX0.out HBy.out hl hnm).mono ?_
              rintro ev w8 ⟨A7, m7, c7, p7, e7, rfl, hc7, hs7, st7, ag7⟩
              have H8 := Lib.hid hs7
              have S8 := Lib.hid (S7.out.trans st7)
              have AG := Lib.hid ag7
              have c4' := hs7.c4
              have h58 := hs7.2.2.1
              clear hs7 st7 ag7 H7 S7 TRx kt KT7 HW7
              rcases hlr : lensR (bitsOf bs) sh (257 + x1 + (1 + x2)) (8 * bs.length + 1) [] p5 with ⟨all, q⟩ | b
              · rw [hlr] at AG HTk
                clear hlr
                obtain ⟨he7, hpq, hm7, hrd⟩ := AG.out
                subst he7 hpq hm7
                simp only [Res.bind] at HTk
                clear AG
                obtain ⟨ba, offa, rfl, hblt, hcells⟩ := hrd.2 (by omega)
                have HRd := Lib.hid hrd
                have ca := hcells 256 (by omega)
                clear hcells hrd
                by_cases ha0 : all.getD 256 0 = 0
                · rw [ha0] at ca
                  rw [if_pos ha0] at HTk
                  clear ha0
                  go_wp2_with fail
                  refine (rfail_any base s bs p7 out (most : Int) 0 4 w8 H8.out).mono ?_
                  rintro ev w9 ⟨rfl, h5', s5, _⟩
                  rw [if_pos rfl] at h5'
                  have H9 := Lib.hid h5'
                  have S9 := Lib.hid (S8.out.trans s5)
                  clear h5' s5
                  go_wp2
                  go_end0
                  exact ⟨p7, out, 4, rfl, H9.out, S9.out, ho, by rw [HTk.out]; rfl⟩
                · rw [if_neg ha0] at HTk
                  generalize all.getD 256 0 = a0 at *
                  have ha0' : (a0 == 0) = false := by simpa using ha0
                  clear ha0
                  have f1 : (0 : Int) ≤ 257 + (x1 : Int) := by omega
                  have f2 : (257 : Int) + (x1 : Int) ≤ c7 := by omega
                  have f3 : (257 : Int) + (x1 : Int) ≤ ((257 + x1 + (1 + x2) : Nat) : Int) := by omega
                  have f4 : 257 + x1 ≠ c7 := by omega
                  go_wp2
                  refine wp_region_qs (fun _ _ => True) [(0, some 0), (1, some 1), (2, some 1), (3, some 0), (4, some 1), (5, some 1), (6, some 0), (7, none)] (by kernel_rfl) (by kernel_rfl) (by kernel_rfl) (by kernel_rfl) (by kernel_rfl) (fun _ _ _ _ _ h => h) trivial ?_
                  simp only [List.map_cons, List.map_nil, List.getD_cons_succ, List.getD_cons_zero]
                  (repeat (first | (refine qs_now (v := ?_) (by rfl) ?_ ?_; rotate_left 1; (· (intro w' hS; go_simp; (try (simp only [↓IntWalk.iteOmega]; go_simp)); (try simp (disch := omega) only [IntWalk.i64_in]); try with_reducible rfl)); simp only [Act.put, List.setIfInBounds_toArray, List.set_cons_zero, List.set_cons_succ]) | (refine qs_run (v := ?_) (by rfl) ?_ ?_; rotate_left 1; (· (intro j w' hS; go_simp; (try (simp only [↓IntWalk.iteOmega]; go_simp)); (try simp (disch := omega) only [IntWalk.i64_in]); try with_reducible rfl)); simp only [Act.put, List.setIfInBounds_toArray, List.set_cons_zero, List.set_cons_succ]) | (refine qs_mid (v := ?_) (by rfl) ?_ ?_; rotate_left 1; (· (intro j w' hj1 hj2 hS; go_simp; (try (simp only [↓IntWalk.iteOmega]; go_simp)); (try simp (disch := omega) only [IntWalk.i64_in]); try with_reducible rfl)); simp only [Act.put, List.setIfInBounds_toArray, List.set_cons_zero, List.set_cons_succ]) | (refine qs_skip (by rfl) ?_; simp only [Act.put, List.setIfInBounds_toArray, List.set_cons_zero, List.set_cons_succ])))
                  refine qs_act ?_
                  go_wp2_with fail
                  have hdr := (Below.refl w8.heap.size w8).drew
                  have hr1 := rd_take (HRd.out.below hdr) (257 + x1) (by omega)
                  have hr2 := rd_from (HRd.out.below hdr) (257 + x1) (by omega)
                  refine (rcoded_any base s bs (all.take (257 + x1)) (all.drop (257 + x1)) p7 out most _ _ _ _ c7 (c7 - (257 + x1)) w8.drew (H8.out.below hdr) hr1 hr2 (by omega) (by omega) HBy.out hl hm ho).mono ?_
                  rintro ev w9 ⟨p8, o8, e8, rfl, hs8, st8, ho8, ag8⟩
                  rw [← HTk.out] at ag8
                  have H9 := Lib.hid hs8
                  have S9 := Lib.hid (S8.out.trans ((StStep.of_below hdr h58).trans st8))
                  have A8 := Lib.hid ag8
                  clear hs8 st8 ag8 hr1 hr2
                  go_wp2
                  refine ⟨trivial, ?_⟩
                  refine qs_nil ?_
                  go_wp2
                  go_end0
                  exact ⟨p8, o8, e8, rfl, H9.out, S9.out, ho8, A8.out⟩
              · rw [hlr] at AG HTk
                clear hlr
                have he7 : e7 = errOf b := AG.out
                have hne := errOf_ne b
                have HE7 := Lib.hid he7
                have hne7 : (e7 != 0) = true := by rw [he7]; simpa using hne
                clear he7 hne AG
                go_wp2
                go_end0
                exact ⟨p7, out, e7, rfl, H8.out, S8.out, ho, by rw [HTk.out]; exact HE7.out⟩
  · have hb1I : ¬ (286 : Int) < 257 + (x1 : Int) := by omega
    have hb1D : decide ((286 : Int) < 257 + (x1 : Int)) = false := by simpa using hb1I
    have hb2I : ¬ (30 : Int) < 1 + (x2 : Int) := by omega
    rw [if_neg hbig] at T3
    have H4 := H3
    have S4 := S3
    have T4 := T3
    clear H3 S3 T3 hbig
    go_wp2_with fail
    refine (rorder_any w3).mono ?_
    rintro ev w5 ⟨go, rfl, ko, hgo, hb5⟩
    have H5 := Lib.hid (H4.out.below hb5)
    have S5 := Lib.hid (S4.out.trans (StStep.of_below hb5 H4.out.2.2.1))
    have KO5 := Lib.hid ko
    clear ko hb5 H4 S4
    have hw5 := S5.out.size
    have h55 := H5.out.2.2.1
    go_wp2_with (refine mk_ints rfl (.const (.int .i64 19)) (.const (.int .i64 19)) rfl w5.heap.size 19 _ _ rfl rfl rfl rfl (by omega) (Nat.le_refl _) ?_; intro w9 ho9 hg9; have O9 := Lib.hid ho9; have G9 := Lib.hid hg9; clear ho9 hg9)
    have B9 := Lib.hid (bl_n (Below.refl _ _) G9.out)
    have H9 := Lib.hid (H5.out.below B9.out)
    have S9 := Lib.hid (StStep.of_below (s := s) (r := s) B9.out h55)
    clear G9
    go_loopg [7] (4 + x3) (RShI base s bs out p3 most (4 + x3) w5.heap.size 19 T (dynG (bitsOf bs) most out x1 x2) w5)
    case atStart =>
      refine ⟨0, p3, e3, List.replicate 19 0, rfl, by omega, by simpa using O9.out, H9.out, S9.out, ?_⟩
      rcases T4.out with h | ⟨a, b⟩
      · first | exact .inl h | exact .inl ⟨rfl, h.2⟩
      · exact .inr ⟨a, rfl, b⟩
    case round =>
      clear O9 H9 S9 T4 B9
      obtain ⟨i, p5, e5, sh, rfl, hi, ho5, hs5', st5, hT5⟩ := hrel
      have hshl : sh.length = 19 := by simpa using ho5.1
      have O6 := Lib.hid ho5
      have H6 := Lib.hid hs5'
      have S6 := Lib.hid st5
      have T5 := Lib.hid hT5
      have KO6 := Lib.hid (H5.out.keepBlk st5 KO5.out (by decide) (by decide))
      have h56 := hs5'.2.2.1
      clear ho5 hs5' st5 hT5
      by_cases hlt : i < 4 + x3
      · have hltI : (i : Int) < 4 + (x3 : Int) := by omega
        have cx := tab_cell KO6.out (j := i) (show i < 19 by omega)
        have hob := ord_bd i (by omega)
        obtain ⟨o, hoE⟩ : ∃ o : Nat, orderL.getD i 0 = (o : Int) := ⟨(orderL.getD i 0).toNat, by omega⟩
        rw [hoE] at cx hob
        have ho19 : o < 19 := by omega
        have hoI : (o : Int) < 19 := by omega
        have hi19 : (i : Int) < 19 := by omega
        have HOE := Lib.hid hoE
        clear hoE hob
        go_wp2
        refine wp_region_qs (fun j w' => j ≤ 1 → w'.cell? ⟨go, i, none⟩ = some (.int .i64 (o : Int))) [(0, some 1), (1, some 1), (2, some 1), (3, some 1), (4, some 1), (5, some 0), (6, none), (7, some 1), (8, none)] (by kernel_rfl) (by kernel_rfl) (by kernel_rfl) (by kernel_rfl) (by kernel_rfl) (fun _ _ _ _ _ h => h) (fun _ => cx) ?_
        simp only [List.map_cons, List.map_nil, List.getD_cons_succ, List.getD_cons_zero]
        (repeat (first | (refine qs_now (v := ?_) (by rfl) ?_ ?_; rotate_left 1; (· (intro w' hS; go_simp; (try (simp only [↓IntWalk.iteOmega]; go_simp)); (try simp (disch := omega) only [IntWalk.i64_in]); try with_reducible rfl)); simp only [Act.put, List.setIfInBounds_toArray, List.set_cons_zero, List.set_cons_succ]) | (refine qs_run (v := ?_) (by rfl) ?_ ?_; rotate_left 1; (· (intro j w' hS; go_simp; (try (simp only [↓IntWalk.iteOmega]; go_simp)); (try simp (disch := omega) only [IntWalk.i64_in]); try with_reducible rfl)); simp only [Act.put, List.setIfInBounds_toArray, List.set_cons_zero, List.set_cons_succ]) | (refine qs_mid (v := ?_) (by rfl) ?_ ?_; rotate_left 1; (· (intro j w' hj1 hj2 hS; go_simp; (try (simp only [↓IntWalk.iteOmega]; go_simp)); (try simp (disch := omega) only [IntWalk.i64_in]); try with_reducible rfl)); simp only [Act.put, List.setIfInBounds_toArray, List.set_cons_zero, List.set_cons_succ]) | (refine qs_skip (by rfl) ?_; simp only [Act.put, List.setIfInBounds_toArray, List.set_cons_zero, List.set_cons_succ])))
        refine qs_act ?_
        go_wp2_with fail
        have hdr := (Below.refl wr.heap.size wr).drew
        refine (rnumber_any base s bs p5 out (most : Int) e5 3 wr.drew (H6.out.below hdr) HBy.out hl (by omega)).mono ?_
        rintro ev w6 ⟨x, p6, e6, rfl, hx, hs6, st6, tk6, -⟩
        have st66 := (StStep.of_below (s := s) (r := s) hdr h56).trans st6
        have O7 := Lib.hid (H6.out.row st66 O6.out)
        have H7 := Lib.hid hs6
        have S7 := Lib.hid (S6.out.trans st66)
        have T6 := Lib.hid tk6
        have KO7 := Lib.hid (H6.out.keepBlk st66 KO6.out (by decide) (by decide))
        have cx7 := tab_cell KO7.out (j := i) (show i < 19 by omega)
        rw [HOE.out] at cx7
        have q1 := O7.out.cellAt o (by omega)
        have q2 := O7.out.frozenAt o
        rw [List.getElem?_map, List.getElem?_eq_getElem (by omega)] at q1
        simp only [Option.map_some] at q1
        clear hs6 st6 tk6 st66 hdr O6 S6 KO6 cx H6 KO7
        go_wp2
        refine ⟨fun _ => cx7, ?_⟩
        (repeat (first | (refine qs_now (v := ?_) (by rfl) ?_ ?_; rotate_left 1; (· (intro w' hS; go_simp; (try (simp only [↓IntWalk.iteOmega]; go_simp)); (try simp (disch := omega) only [IntWalk.i64_in]); try with_reducible rfl)); simp only [Act.put, List.setIfInBounds_toArray, List.set_cons_zero, List.set_cons_succ]) | (refine qs_run (v := ?_) (by rfl) ?_ ?_; rotate_left 1; (· (intro j w' hS; go_simp; (try (simp only [↓IntWalk.iteOmega]; go_simp)); (try simp (disch := omega) only [IntWalk.i64_in]); try with_reducible rfl)); simp only [Act.put, List.setIfInBounds_toArray, List.set_cons_zero, List.set_cons_succ]) | (refine qs_mid (v := ?_) (by rfl) ?_ ?_; rotate_left 1; (· (intro j w' hj1 hj2 hS; go_simp; (try (simp only [↓IntWalk.iteOmega]; go_simp)); (try simp (disch := omega) only [IntWalk.i64_in]); try with_reducible rfl)); simp only [Act.put, List.setIfInBounds_toArray, List.set_cons_zero, List.set_cons_succ]) | (refine qs_skip (by rfl) ?_; simp only [Act.put, List.setIfInBounds_toArray, List.set_cons_zero, List.set_cons_succ])))
        refine qs_act ?_
        go_wp2
        refine ⟨fun h => absurd h (by omega), ?_⟩
        refine qs_nil ?_
        go_wp2
        go_roundg (gk - 1)
        case measure => omega
        case rel =>
          have hst := O7.out.stored o (.int .i64 (x : Int))
          refine ⟨i + 1, p6, e6, sh.set o (x : Int), by go_num, by omega, ?_, H7.out.int O7.out h55 hst.2, S7.out.int O7.out (Nat.le_refl _) h55 hst.2, ?_⟩
          · rw [List.map_set]; exact hst.1
          · have ho2 : (orderL.getD i 0).toNat = o := by rw [HOE.out]; rfl
            rcases T5.out with ⟨a, b⟩ | ⟨a, b, c⟩
            · left
              refine ⟨?_, b⟩
              rcases T6.out with ⟨h, _⟩ | ⟨_, _, h⟩
              · rw [a] at h; cases h
              · rw [h, a]
            · subst a
              rcases took_or (T6.out.resolve_right (fun h => h.1 rfl)).2 with ⟨k, h⟩ | ⟨b', k, _, h⟩
              · exact .inr ⟨h, by rw [shortsR, b]; simp only [Res.bind]; rw [k]; simp only [ho2], c⟩
              · obtain rfl := numR_bad k
                left
                refine ⟨h, ?_⟩
                have hbad : shortsR (bitsOf bs) (i + 1) p3 = .bad false := by rw [shortsR, b]; simp only [Res.bind]; rw [k]
                have := shortsR_bad hbad (4 + x3 - (i + 1))
                rw [show i + 1 + (4 + x3 - (i + 1)) = 4 + x3 by omega] at this
                rw [c, this]; rfl
      · have hltI : ¬ (i : Int) < 4 + (x3 : Int) := by omega
        obtain rfl : i = 4 + x3 := by omega
        have T6 := Lib.hid (show (e5 = 4 ∧ T = .bad false) ∨ (e5 = 0 ∧ T = dynG (bitsOf bs) most out x1 x2 sh p5) by
          rcases T5.out with h | ⟨a, b, c⟩
          · exact .inl h
          · exact .inr ⟨a, by rw [c, b]; rfl⟩)
        clear T5
        go_wp2_with fail
        refine (made_any sh _ 19 19 wr (RdI.of_own O6.out) (by omega)).mono ?_
        rintro ev w6 ⟨bt, rfl, hbt, htr, hb6⟩
        obtain ⟨w7, hw7⟩ : ∃ w7, w7 = w6.alloc (.cells #[.map (some bt)] 117) := ⟨_, rfl⟩
        have L7 := Lib.hid (show Below w6.heap.size w6 w7 by rw [hw7]; exact (Below.refl _ _).alloc (Nat.le_refl _) _)
        have KT7 := Lib.hid (show Blk w7 w6.heap.size 117 #[.map (some bt)] by rw [hw7]; exact Blk.made _ _ _)
        have B7 := Lib.hid (below_chain hb6 L7.out)
        have H7 := Lib.hid (H6.out.below B7.out)
        have S7 := Lib.hid ((S5.out.trans S6.out).trans (StStep.of_below B7.out h56))
        have TR7 := Lib.hid (show countsOk sh = true → TreeOk w7 bt sh from fun hh => (htr hh).below L7.out)
        have HW7 := Lib.hid hw7
        have kt := KT7.out.cell (i := 0) rfl
        clear htr hb6 hw7 L7 B7 H6 S6 O6 KO6
        cases hx0 : countsOk sh
        · have HE := Lib.hid (show (if e5 = 0 then (4 : Int) else e5) = 4 ∧ T = .bad false by
            rcases T6.out with ⟨a, b⟩ | ⟨a, b⟩
            · rw [a]; exact ⟨rfl, b⟩
            · rw [dynG, if_neg (by rw [hx0]; simp)] at b
              rw [if_pos a]; exact ⟨rfl, b⟩)
          clear hx0 T6 TR7
          go_wp2_with fail
          rw [← HW7.out]
          refine (rfail_any base s bs p5 out (most : Int) e5 4 w7 H7.out).mono ?_
          rintro ev w8 ⟨rfl, h7', s7, _⟩
          rw [HE.out.1] at h7'
          have HTb := Lib.hid HE.out.2
          have H8 := Lib.hid h7'
          have S8 := Lib.hid (S7.out.trans s7)
          have KT8 := H7.out.keepBlk s7 KT7.out (by decide) (by decide)
          have kt8 := KT8.cell (i := 0) rfl
          clear h7' s7 KT8 H7 S7 HE HW7 kt KT7
          go_wp2_with fail
          rw [show (257 + (x1 : Int) + (1 + (x2 : Int))) = ((257 + x1 + (1 + x2) : Nat) : Int) by omega]
          refine (rlengths_no base s bt bs p5 out (most : Int) 4 (257 + x1 + (1 + x2)) w8 H8.out (by omega) (by omega) (by omega)).mono ?_
          rintro ev wz ⟨rfl, hsz, stz⟩
          have HZ := Lib.hid hsz
          have SZ := Lib.hid (S8.out.trans stz)
          have c4z := hsz.c4
          clear hsz stz
          go_wp2
          go_end0
          exact ⟨p5, out, 4, rfl, HZ.out, SZ.out, ho, by rw [HTb.out]; rfl⟩
        · have HX0 := Lib.hid hx0
          rcases T6.out with ⟨rfl, hTb⟩ | ⟨rfl, hTk⟩
          · have HTb := Lib.hid hTb
            clear hTb T6 hx0 TR7
            go_wp2_with fail
            rw [← HW7.out]
            have H8 := H7
            have S8 := S7
            clear H7 S7
            rw [show (257 + (x1 : Int) + (1 + (x2 : Int))) = ((257 + x1 + (1 + x2) : Nat) : Int) by omega]
            refine (rlengths_no base s bt bs p5 out (most : Int) 4 (257 + x1 + (1 + x2)) w7 H8.out (by omega) (by omega) (by omega)).mono ?_
            rintro ev wz ⟨rfl, hsz, stz⟩
            have HZ := Lib.hid hsz
            have SZ := Lib.hid (S8.out.trans stz)
            have c4z := hsz.c4
            clear hsz stz
            go_wp2
            go_end0
            exact ⟨p5, out, 4, rfl, HZ.out, SZ.out, ho, by rw [HTb.out]; rfl⟩
          ·
            rw [dynG, if_pos hx0, bitsOf_len] at hTk
            have HTk := Lib.hid hTk
            have TRx := Lib.hid (TR7.out hx0)
            clear hTk T6 hx0 TR7
            have hnm : (257 + x1 + (1 + x2) : Nat) ≤ 1000 := by omega
            go_wp2_with fail
            rw [← HW7.out]
            rw [show (257 + (x1 : Int) + (1 + (x2 : Int))) = ((257 + x1 + (1 + x2) : Nat) : Int) by omega]
            refine (rlengths_any base s bt bs sh p5 out most (257 + x1 + (1 + x2)) w7 H7.out TRx.out HX0.out HBy.out hl hnm).mono ?_
            rintro ev w8 ⟨A7, m7, c7, p7, e7, rfl, hc7, hs7, st7, ag7⟩
            have H8 := Lib.hid hs7
            have S8 := Lib.hid (S7.out.trans st7)
            have AG := Lib.hid ag7
            have c4' := hs7.c4
            have h58 := hs7.2.2.1
            clear hs7 st7 ag7 H7 S7 TRx kt KT7 HW7
            rcases hlr : lensR (bitsOf bs) sh (257 + x1 + (1 + x2)) (8 * bs.length + 1) [] p5 with ⟨all, q⟩ | b
            · rw [hlr] at AG HTk
              clear hlr
              obtain ⟨he7, hpq, hm7, hrd⟩ := AG.out
              subst he7 hpq hm7
              simp only [Res.bind] at HTk
              clear AG
              obtain ⟨ba, offa, rfl, hblt, hcells⟩ := hrd.2 (by omega)
              have HRd := Lib.hid hrd
              have ca := hcells 256 (by omega)
              clear hcells hrd
              by_cases ha0 : all.getD 256 0 = 0
              · rw [ha0] at ca
                rw [if_pos ha0] at HTk
                clear ha0
                go_wp2_with fail
                refine (rfail_any base s bs p7 out (most : Int) 0 4 w8 H8.out).mono ?_
                rintro ev w9 ⟨rfl, h5', s5, _⟩
                rw [if_pos rfl] at h5'
                have H9 := Lib.hid h5'
                have S9 := Lib.hid (S8.out.trans s5)
                clear h5' s5
                go_wp2
                go_end0
                exact ⟨p7, out, 4, rfl, H9.out, S9.out, ho, by rw [HTk.out]; rfl⟩
              · rw [if_neg ha0] at HTk
                generalize all.getD 256 0 = a0 at *
                have ha0' : (a0 == 0) = false := by simpa using ha0
                clear ha0
                have f1 : (0 : Int) ≤ 257 + (x1 : Int) := by omega
                have f2 : (257 : Int) + (x1 : Int) ≤ c7 := by omega
                have f3 : (257 : Int) + (x1 : Int) ≤ ((257 + x1 + (1 + x2) : Nat) : Int) := by omega
                have f4 : 257 + x1 ≠ c7 := by omega
                go_wp2
                refine wp_region_qs (fun _ _ => True) [(0, some 0), (1, some 1), (2, some 1), (3, some 0), (4, some 1), (5, some 1), (6, some 0), (7, none)] (by kernel_rfl) (by kernel_rfl) (by kernel_rfl) (by kernel_rfl) (by kernel_rfl) (fun _ _ _ _ _ h => h) trivial ?_
                simp only [List.map_cons, List.map_nil, List.getD_cons_succ, List.getD_cons_zero]
                (repeat (first | (refine qs_now (v := ?_) (by rfl) ?_ ?_; rotate_left 1; (· (intro w' hS; go_simp; (try (simp only [↓IntWalk.iteOmega]; go_simp)); (try simp (disch := omega) only [IntWalk.i64_in]); try with_reducible rfl)); simp only [Act.put, List.setIfInBounds_toArray, List.set_cons_zero, List.set_cons_succ]) | (refine qs_run (v := ?_) (by rfl) ?_ ?_; rotate_left 1; (· (intro j w' hS; go_simp; (try (simp only [↓IntWalk.iteOmega]; go_simp)); (try simp (disch := omega) only [IntWalk.i64_in]); try with_reducible rfl)); simp only [Act.put, List.setIfInBounds_toArray, List.set_cons_zero, List.set_cons_succ]) | (refine qs_mid (v := ?_) (by rfl) ?_ ?_; rotate_left 1; (· (intro j w' hj1 hj2 hS; go_simp; (try (simp only [↓IntWalk.iteOmega]; go_simp)); (try simp (disch := omega) only [IntWalk.i64_in]); try with_reducible rfl)); simp only [Act.put, List.setIfInBounds_toArray, List.set_cons_zero, List.set_cons_succ]) | (refine qs_skip (by rfl) ?_; simp only [Act.put, List.setIfInBounds_toArray, List.set_cons_zero, List.set_cons_succ])))
                refine qs_act ?_
                go_wp2_with fail
                have hdr := (Below.refl w8.heap.size w8).drew
                have hr1 := rd_take (HRd.out.below hdr) (257 + x1) (by omega)
                have hr2 := rd_from (HRd.out.below hdr) (257 + x1) (by omega)
                refine (rcoded_any base s bs (all.take (257 + x1)) (all.drop (257 + x1)) p7 out most _ _ _ _ c7 (c7 - (257 + x1)) w8.drew (H8.out.below hdr) hr1 hr2 (by omega) (by omega) HBy.out hl hm ho).mono ?_
                rintro ev w9 ⟨p8, o8, e8, rfl, hs8, st8, ho8, ag8⟩
                rw [← HTk.out] at ag8
                have H9 := Lib.hid hs8
                have S9 := Lib.hid (S8.out.trans ((StStep.of_below hdr h58).trans st8))
                have A8 := Lib.hid ag8
                clear hs8 st8 ag8 hr1 hr2
                go_wp2
                refine ⟨trivial, ?_⟩
                refine qs_nil ?_
                go_wp2
                go_end0
                exact ⟨p8, o8, e8, rfl, H9.out, S9.out, ho8, A8.out⟩
            · rw [hlr] at AG HTk
              clear hlr
              have he7 : e7 = errOf b := AG.out
              have hne := errOf_ne b
              have HE7 := Lib.hid he7
              have hne7 : (e7 != 0) = true := by rw [he7]; simpa using hne
              clear he7 hne AG
              go_wp2
              go_end0
              exact ⟨p7, out, e7, rfl, H8.out, S8.out, ho, by rw [HTk.out]; exact HE7.out⟩
end Go.Proofs.YtlhaehefhhcgaaaDoor
namespace Go.Proofs.YtlhaehefhhcgaaaDoor
open Go.RowKit
set_option linter.unusedVariables false

theorem bit_at {bs : List Int} (hB : Bytes bs) {i k : Nat} (hi : i < bs.length) (hk : k < 8) : (bitsOf bs).getD (8 * i + k) 0 = bs.getD i 0 / 2 ^ k % 2 := by
  rw [bitsOf_at (by omega)]
  unfold bitsAt
  rw [Nat.pow_add, ← Nat.div_div_eq_div_mul, ← pow256, ← leNum_drop bs hB i]
  have hd : bs.drop i = bs.getD i 0 :: bs.drop (i + 1) := by
    rw [List.drop_eq_getElem_cons hi]
    simp [hi]
  have hb : 0 ≤ bs.getD i 0 ∧ bs.getD i 0 < 256 := by
    refine hB _ ?_
    rw [List.getD_eq_getElem?_getD, List.getElem?_eq_getElem hi]
    exact List.getElem_mem _
  rw [hd]
  generalize bs.getD i 0 = x at *
  obtain ⟨y, rfl⟩ : ∃ y : Nat, x = (y : Int) := ⟨x.toNat, by omega⟩
  simp only [leNum, Int.toNat_natCast]
  generalize leNum (bs.drop (i + 1)) = R
  have h1 : (y + 256 * R) / 2 ^ k % 2 = y / 2 ^ k % 2 := by
    have e : 256 * R = 2 ^ k * (2 ^ (8 - k) * R) := by rw [← Nat.mul_assoc, ← Nat.pow_add, show k + (8 - k) = 8 by omega]
    rw [e, Nat.add_mul_div_left _ _ (Nat.two_pow_pos k), show 8 - k = (7 - k) + 1 by omega, Nat.pow_succ, Nat.mul_comm (2 ^ (7 - k)) 2, Nat.mul_assoc, Nat.add_mul_mod_self_left]
  rw [Nat.pow_one, h1]
  push_cast
  rfl
theorem src_o (W : World) (t : TypeId) (y : Value) : Src (W.alloc (.cells #[y] t)) 1 (.slice (some ⟨W.heap.size, 0, none⟩) 1 1) 1 [y] :=
  ⟨_, 1, rfl, rfl, fun _ => ⟨W.heap.size, 0, rfl, by simp, fun j u hu => by rw [Nat.zero_add, (Blk.made W t #[y]).cellq]; simpa using hu⟩⟩
theorem and_one6 (z : Int) (q : Nat) (hz : 0 ≤ z ∧ z < 256) : bits .and .i64 (wrap64 (z / 2 ^ q)) 1 = z / 2 ^ q % 2 := by
  obtain ⟨a, rfl⟩ : ∃ a : Nat, z = a := ⟨z.toNat, by omega⟩
  have e3 : (a : Int) / 2 ^ q = ((a / 2 ^ q : Nat) : Int) := by push_cast; rfl
  have hle : a / 2 ^ q ≤ a := Nat.div_le_self _ _
  rw [e3]
  generalize a / 2 ^ q = y at *
  have h := bits_mask .i64 63 (by decide) (fun n h0 h1 => IntWalk.i64_in n (by omega)) 1 (by omega) (y : Int) (by omega) (by omega)
  rw [IntWalk.wrap64_in (y : Int) ⟨by omega, by omega⟩]
  simpa using h
theorem row_ne {w : World} {s : Nat} {t e : TypeId} {cs : Array Value} {base n : Nat} {v : Value} {xs : List Value} (hb : Blk w s t cs) (h : w.ownsRow base e 1 v n xs) (ht : t ≠ e) : v.ownBlock ≠ some s := by
  intro hv
  rcases h.2 with ⟨rfl, _⟩ | ⟨g, cap, cur, rfl, a1, a2, _⟩
  · cases hv
  · injection hv with hv
    subst hv
    exact blk_ne hb (show Blk w g e cur from a2) ht rfl
def RBld (bs : List Int) (s : Nat) (most : Int) (i : Nat) (w : World) (k : Nat) (kv : Value) (wr : World) : Prop :=
  ∃ (j m : Nat) (A : Option Addr) (c : Nat), j + k = 8 ∧ kv = .int .i64 (j : Int) ∧ m = 8 * i + j ∧ Blk wr s 64 #[.slice A m c, .int .i64 0, .slice none 0 0, .int .i64 most, .int .i64 0] ∧
    wr.ownsRow w.heap.size 3 1 (.slice A m c) m (((bitsOf bs).take m).map (Value.int .i64)) ∧ Below w.heap.size w wr
def RBlo (bs : List Int) (s : Nat) (most : Int) (n : Nat) (w : World) (k : Nat) (iv : Value) (wr : World) : Prop :=
  ∃ (i m : Nat) (A : Option Addr) (c : Nat), i + k = n ∧ iv = .int .i64 (i : Int) ∧ m = 8 * i ∧ Blk wr s 64 #[.slice A m c, .int .i64 0, .slice none 0 0, .int .i64 most, .int .i64 0] ∧
    wr.ownsRow w.heap.size 3 1 (.slice A m c) m (((bitsOf bs).take m).map (Value.int .i64)) ∧ Below w.heap.size w wr
theorem ref_start {w : World} {s base : Nat} {bs : List Int} {m c : Nat} {A : Option Addr} {mo : Int} (hm : m = 8 * bs.length) (hk : Blk w s 64 #[.slice A m c, .int .i64 0, .slice none 0 0, .int .i64 mo, .int .i64 0])
    (ho : w.ownsRow base 3 1 (.slice A m c) m (((bitsOf bs).take m).map (Value.int .i64))) : RefOk w w.heap.size s bs 0 [] mo 0 := by
  rw [List.take_of_length_le (by rw [bitsOf_len]; omega)] at ho
  subst hm
  refine ⟨by omega, hk.lt, Nat.le_refl _, (fun z hz => by cases hz), A, c, .slice none 0 0, hk, RdI.of_own ho, ?_, ⟨rfl, .inl ⟨rfl, rfl⟩⟩, fun j hj => by cases hj⟩
  rintro b off rfl
  exact ⟨(ho.lt b rfl).2, fun e => row_ne hk ho (by decide) (by rw [← e]; rfl)⟩
def RInfO (base s : Nat) (bs : List Int) (most : Nat) (T : Res (List Int)) (w : World) (k : Nat) (lv : Value) (wr : World) : Prop :=
  ∃ out p e la, lv = .int .i64 ((la : Nat) : Int) ∧ RefOk wr base s bs p out (most : Int) e ∧ StStep w wr base s s ∧ out.length ≤ most ∧
    ((e = 0 ∧ la = 0 ∧ T = blocksR (bitsOf bs) most k out p ∧ 8 * bs.length + 1 ≤ k + p) ∨ (e = 0 ∧ la ≠ 0 ∧ T = .ok out p) ∨ (∃ b, e = errOf b ∧ T = .bad b))

theorem rtook_ok {e : Int} {bt : List Int} {p n v p' : Nat} (h : RTook e (numR bt p n) v p' 0) : e = 0 ∧ p' = p + n := by
  rcases h with ⟨rfl, h⟩ | ⟨hne, _, he⟩
  · rcases took_or h with ⟨h1, _⟩ | ⟨b, h1, _, h2⟩
    · exact ⟨rfl, (numR_ok h1).1⟩
    · rw [if_pos rfl] at h2
      cases b <;> cases h2
  · exact absurd he.symm hne
set_option maxHeartbeats 1600000 in
set_option maxRecDepth 100000 in
theorem rinflate_any (bs : List Int) (A : Option Addr) (n cap : Nat) (most : Int) (w : World) (h : RdI .u8 w A n bs) (hB : Bytes bs) (hn : n ≤ 100000000) :
    Calls Tryd.prog 11 #[.slice A n cap, .int .i64 most] w (InfPost bs most w) := by
  have HRd := Lib.hid h
  have HBy := Lib.hid hB
  have hbl : bs.length = n := h.1
  have HBl := Lib.hid hbl
  have hbl9 : bs.length ≤ 1000000000 := by omega
  clear h hB hbl
  by_cases hm0 : most < 0
  · go_enter Tryd.func11, Tryd.ntmps11
    go_wp2
    go_ret3
    exact ⟨Below.refl _ _, by rw [if_pos (.inl hm0)]; rfl⟩
  by_cases hm1 : 65536 < most
  · have d0 : decide (most < 0) = false := by simpa using hm0
    go_enter Tryd.func11, Tryd.ntmps11
    go_wp2
    go_ret3
    exact ⟨Below.refl _ _, by rw [if_pos (.inr hm1)]; rfl⟩
  obtain ⟨mo, rfl⟩ : ∃ mo : Nat, most = (mo : Int) := ⟨most.toNat, by omega⟩
  have hmo : mo ≤ 65536 := by omega
  have HP := Lib.hid (show ∀ ev w', InfPost bs (mo : Int) w ev w' = (Below w.heap.size w w' ∧ InfAgree (inflateR (bitsOf bs) mo) w ev w') from fun ev w' => by unfold InfPost; rw [if_neg (by omega), Int.toNat_natCast])
  have d0 : decide ((mo : Int) < 0) = false := by simp
  have d1 : decide ((65536 : Int) < (mo : Int)) = false := by simpa using hm1
  clear hm0 hm1
  obtain ⟨T, hT⟩ : ∃ T, T = inflateR (bitsOf bs) mo := ⟨_, rfl⟩
  rw [← hT] at HP
  have HT := Lib.hid hT
  clear hT
  go_enter Tryd.func11, Tryd.ntmps11
  go_wp2
  obtain ⟨w2, hw2⟩ : ∃ w2, w2 = w.alloc (.cells #[.slice none 0 0, .int .i64 0, .slice none 0 0, .int .i64 (mo : Int), .int .i64 0] 64) := ⟨_, rfl⟩
  rw [← hw2]
  have L2 := Lib.hid (show Below w.heap.size w w2 by rw [hw2]; exact (Below.refl _ _).alloc (Nat.le_refl _) _)
  have K2 := Lib.hid (show Blk w2 w.heap.size 64 #[.slice none 0 0, .int .i64 0, .slice none 0 0, .int .i64 (mo : Int), .int .i64 0] by rw [hw2]; exact Blk.made _ _ _)
  clear hw2
  go_loopg [8] n (RBlo bs w.heap.size (mo : Int) n w)
  case atStart => exact ⟨0, 0, none, 0, by omega, rfl, rfl, K2.out, ⟨rfl, .inl ⟨rfl, rfl⟩⟩, L2.out⟩
  case round =>
    clear K2 L2
    obtain ⟨i, m, A1, c1, hi, rfl, hm, hk, ho, hb⟩ := hrel
    obtain ⟨go, hgo⟩ : ∃ go, go = gk := ⟨_, rfl⟩
    rw [← hgo] at hi
    have K := Lib.hid hk
    have O := Lib.hid ho
    have B := Lib.hid hb
    have HM := Lib.hid hm
    clear hk ho hb hm
    by_cases hlt : i < n
    · have hltI : (i : Int) < n := by omega
      go_wp2
      go_loopg [9] 8 (RBld bs w.heap.size (mo : Int) i w)
      case atStart => exact ⟨0, m, A1, c1, by omega, rfl, by have := HM.out; omega, K.out, O.out, B.out⟩
      case round =>
        clear K O B HM
        obtain ⟨j, m, A1, c1, hj, rfl, hm, hk, ho, hb⟩ := hrel
        have K := Lib.hid hk
        have O := Lib.hid ho
        have B := Lib.hid hb
        have hw := hk.lt
        have HM := Lib.hid hm
        clear hk ho hb hm
        by_cases hj8 : j < 8
        · have hj8I : (j : Int) < 8 := by omega
          have hil : i < bs.length := by have := HBl.out; omega
          have HBit := Lib.hid (bit_at HBy.out hil hj8)
          have HTk := Lib.hid (take_snoc (bitsOf bs) m (by rw [bitsOf_len]; have := HM.out; omega))
          have hm9 : m ≤ 800000000 := by have := HM.out; omega
          have hxb : 0 ≤ bs.getD i 0 ∧ bs.getD i 0 < 256 := by
            refine HBy.out _ ?_
            rw [List.getD_eq_getElem?_getD, List.getElem?_eq_getElem hil]
            exact List.getElem_mem _
          obtain ⟨bb, ob, hAb, hbb, hcb⟩ := HRd.out.2 (by omega)
          have cb := (World.cell?_of_block (a := ⟨bb, ob + i, none⟩) (B.out.block bb hbb)).trans (hcb i hlt)
          subst hAb
          have HC := Lib.hid (hcb i hlt)
          have c0 := K.out.cell (i := 0) (v := .slice A1 m c1) rfl
          clear hcb
          generalize bs.getD i 0 = xb at *
          go_wp2
          refine wp_region_qs (fun jj w' => (jj ≤ 2 → w'.cell? ⟨w.heap.size, 0, none⟩ = some (.slice A1 m c1)) ∧ (jj ≤ 1 → w'.cell? ⟨w.heap.size, 0, none⟩ = some (.slice A1 m c1)) ∧ (jj ≤ 2 → w'.cell? ⟨bb, ob + i, none⟩ = some (.int .u8 xb))) [(0, some 2), (1, some 2), (2, some 2), (3, some 2), (4, some 1), (5, some 2), (6, some 2), (7, some 2), (8, some 2), (9, some 2), (10, some 2), (11, some 2), (12, some 2), (13, some 1), (14, none), (15, none), (16, some 3), (17, some 2), (18, none)] (by kernel_rfl) (by kernel_rfl) (by kernel_rfl) (by kernel_rfl) (by kernel_rfl) (fun _ _ _ _ _ h => h) ⟨fun _ => c0, fun _ => c0, fun _ => cb⟩ ?_
          simp only [List.map_cons, List.map_nil, List.getD_cons_succ, List.getD_cons_zero]
          (repeat (first | (refine qs_now (v := ?_) (by rfl) ?_ ?_; rotate_left 1; (· (intro w' hS; go_simp; (try (simp only [↓IntWalk.iteOmega]; go_simp)); (try simp (disch := omega) only [IntWalk.i64_in]); try with_reducible rfl)); simp only [Act.put, List.setIfInBounds_toArray, List.set_cons_zero, List.set_cons_succ]) | (refine qs_run (v := ?_) (by rfl) ?_ ?_; rotate_left 1; (· (intro j w' hS; go_simp; (try (simp only [↓IntWalk.iteOmega]; go_simp)); (try simp (disch := omega) only [IntWalk.i64_in]); try with_reducible rfl)); simp only [Act.put, List.setIfInBounds_toArray, List.set_cons_zero, List.set_cons_succ]) | (refine qs_mid (v := ?_) (by rfl) ?_ ?_; rotate_left 1; (· (intro j w' hj1 hj2 hS; go_simp; (try (simp only [↓IntWalk.iteOmega]; go_simp)); (try simp (disch := omega) only [IntWalk.i64_in]); try with_reducible rfl)); simp only [Act.put, List.setIfInBounds_toArray, List.set_cons_zero, List.set_cons_succ]) | (refine qs_skip (by rfl) ?_; simp only [Act.put, List.setIfInBounds_toArray, List.set_cons_zero, List.set_cons_succ])))
          refine qs_act ?_
          go_wp2
          rw [show min j 8 = j by omega, and_one6 xb j hxb]
          obtain ⟨w8, hw8⟩ : ∃ w8, w8 = (wr.alloc (.cells #[.int .i64 (xb / 2 ^ j % 2)] 3)).drew := ⟨_, rfl⟩
          rw [← hw8]
          have L8 := Lib.hid (show Below wr.heap.size wr w8 by rw [hw8]; exact ((Below.refl _ _).alloc (Nat.le_refl _) _).drew)
          have S8 := Lib.hid (show Src w8 1 (.slice (some ⟨wr.heap.size, 0, none⟩) 1 1) 1 [.int .i64 (xb / 2 ^ j % 2)] by rw [hw8]; exact src_o _ _ _)
          clear hw8
          have O8 := Lib.hid (own_below O.out L8.out)
          have K8 := Lib.hid (K.out.below L8.out K.out.lt)
          have c8 := K8.out.cell (i := 0) (v := .slice A1 m c1) rfl
          refine ⟨⟨fun _ => c8, fun _ => c8, fun h => (World.cell?_of_block (a := ⟨bb, ob + i, none⟩) (L8.out.block bb (by omega))).trans cb⟩, ?_⟩
          (repeat (first | (refine qs_now (v := ?_) (by rfl) ?_ ?_; rotate_left 1; (· (intro w' hS; go_simp; (try (simp only [↓IntWalk.iteOmega]; go_simp)); (try simp (disch := omega) only [IntWalk.i64_in]); try with_reducible rfl)); simp only [Act.put, List.setIfInBounds_toArray, List.set_cons_zero, List.set_cons_succ]) | (refine qs_run (v := ?_) (by rfl) ?_ ?_; rotate_left 1; (· (intro j w' hS; go_simp; (try (simp only [↓IntWalk.iteOmega]; go_simp)); (try simp (disch := omega) only [IntWalk.i64_in]); try with_reducible rfl)); simp only [Act.put, List.setIfInBounds_toArray, List.set_cons_zero, List.set_cons_succ]) | (refine qs_mid (v := ?_) (by rfl) ?_ ?_; rotate_left 1; (· (intro j w' hj1 hj2 hS; go_simp; (try (simp only [↓IntWalk.iteOmega]; go_simp)); (try simp (disch := omega) only [IntWalk.i64_in]); try with_reducible rfl)); simp only [Act.put, List.setIfInBounds_toArray, List.set_cons_zero, List.set_cons_succ]) | (refine qs_skip (by rfl) ?_; simp only [Act.put, List.setIfInBounds_toArray, List.set_cons_zero, List.set_cons_succ])))
          refine qs_act ?_
          refine app_src rfl (.tmp 37) (.tmp 47) 45 rfl w.heap.size 3 _ 1 8 Tryd.underlying45 infoInt rfl (by omega) _ m _ rfl O8.out _ 1 _ rfl S8.out (by simp [Value.oneCell']) (by omega) (by omega) (by have := B.out.size; have := L8.out.size; omega) ?_
          intro v9 w9 ho9 hg9 hor9
          obtain ⟨A9, c9, hv9, _⟩ := own_slice ho9
          subst hv9
          have G9 := Lib.hid hg9
          have O9 := Lib.hid ho9
          have hsz9 : wr.heap.size ≤ w8.heap.size := L8.out.size
          have hne9 : some w.heap.size ≠ (Value.slice A1 m c1).ownBlock := fun e => row_ne K8.out O8.out (by decide) e.symm
          have K9 := Lib.hid (K8.out.grown hg9 hne9)
          have f9 := K9.out.free 0
          have d9 := K9.out.cell (i := 0) rfl
          have B9 := Lib.hid ((below_chain B.out L8.out).grown hg9 (by have := B.out.size; omega) (fun k hk => (O8.out.lt k hk).1))
          have hbb9 : w9.cell? ⟨bb, ob + i, none⟩ = some (.int .u8 xb) := (World.cell?_of_block (a := ⟨bb, ob + i, none⟩) (B9.out.block bb hbb)).trans HC.out
          clear ho9 hg9 hor9
          refine wpList_nil ?_
          refine ⟨⟨fun _ => d9, fun h => absurd h (by omega), fun _ => hbb9⟩, ?_⟩
          (repeat (first | (refine qs_now (v := ?_) (by rfl) ?_ ?_; rotate_left 1; (· (intro w' hS; go_simp; (try (simp only [↓IntWalk.iteOmega]; go_simp)); (try simp (disch := omega) only [IntWalk.i64_in]); try with_reducible rfl)); simp only [Act.put, List.setIfInBounds_toArray, List.set_cons_zero, List.set_cons_succ]) | (refine qs_run (v := ?_) (by rfl) ?_ ?_; rotate_left 1; (· (intro j w' hS; go_simp; (try (simp only [↓IntWalk.iteOmega]; go_simp)); (try simp (disch := omega) only [IntWalk.i64_in]); try with_reducible rfl)); simp only [Act.put, List.setIfInBounds_toArray, List.set_cons_zero, List.set_cons_succ]) | (refine qs_mid (v := ?_) (by rfl) ?_ ?_; rotate_left 1; (· (intro j w' hj1 hj2 hS; go_simp; (try (simp only [↓IntWalk.iteOmega]; go_simp)); (try simp (disch := omega) only [IntWalk.i64_in]); try with_reducible rfl)); simp only [Act.put, List.setIfInBounds_toArray, List.set_cons_zero, List.set_cons_succ]) | (refine qs_skip (by rfl) ?_; simp only [Act.put, List.setIfInBounds_toArray, List.set_cons_zero, List.set_cons_succ])))
          refine qs_act ?_
          go_wp2
          refine ⟨⟨fun h => absurd h (by omega), fun h => absurd h (by omega), fun h => absurd h (by omega)⟩, ?_⟩
          refine qs_nil ?_
          go_wp2
          go_roundg (gk - 1)
          case measure => omega
          case rel =>
            refine ⟨j + 1, m + 1, A9, c9, by omega, by go_num, by have := HM.out; omega, ?_, ?_, ?_⟩
            · have := K9.out.put 0 (.slice A9 (m + 1) c9)
              simpa using this
            · have h1 := O9.out.kept (grown_put w9 ⟨w.heap.size, 0, none⟩ (.slice A9 (m + 1) c9)) (.inr (row_ne K9.out O9.out (by decide)))
              rw [HTk.out, List.map_append, HM.out, HBit.out, ← HM.out]
              exact h1
            · exact bl_g B9.out (grown_put w9 ⟨w.heap.size, 0, none⟩ (.slice A9 (m + 1) c9)) (Nat.le_refl _)
        · obtain rfl : j = 8 := by omega
          go_wp2
          go_roundg (go - 1)
          case measure => omega
          case rel => exact ⟨i + 1, m, A1, c1, by omega, by go_num, by have := HM.out; omega, K.out, O.out, B.out⟩
    · obtain rfl : i = n := by omega
      have hm8 : m = 8 * bs.length := by rw [HM.out, HBl.out]
      have HR := Lib.hid (ref_start hm8 K.out O.out)
      have hws := B.out.size
      have hsr := K.out.lt
      obtain ⟨s, hsE⟩ : ∃ s, s = w.heap.size := ⟨_, rfl⟩
      obtain ⟨base, hbE⟩ : ∃ base, base = wr.heap.size := ⟨_, rfl⟩
      have FIN := Lib.hid (show ∀ w', StStep wr w' base s s → Below w.heap.size w w' from fun w' hst => by
        have hb := B.out
        exact ⟨hst.os.trans hb.os, hst.tape.trans hb.tape, hst.output.trans hb.output, Nat.le_trans hb.size hst.size, fun k hk => (hst.low k (by omega) (by omega) (by omega)).trans (hb.block k hk)⟩)
      rw [← hsE, ← hbE] at HR
      rw [← hsE]
      have hsb : w.heap.size ≤ base := by omega
      clear K O B HM hm8 hsE hbE hws hsr
      go_wp2
      go_loopg [10] (8 * bs.length + 1) (RInfO base s bs mo T wr)
      case atStart => exact ⟨[], 0, 0, 0, rfl, HR.out, StStep.refl _ _ _ _, by simp, .inl ⟨rfl, rfl, by rw [HT.out]; unfold inflateR; rw [bitsOf_len], by omega⟩⟩
      case round =>
        clear HR HT
        obtain ⟨out, p, e, la, rfl, hs, st, hol, hT⟩ := hrel
        have H := Lib.hid hs
        have S := Lib.hid st
        have c4 := hs.c4
        have hp := hs.1
        have HT := Lib.hid hT
        clear hs st hT
        rcases HT.out with ⟨rfl, rfl, hT, hk⟩ | ⟨rfl, hla, hT⟩ | ⟨b, rfl, hT⟩
        ·
          obtain ⟨f, rfl⟩ : ∃ f, gk = f + 1 := ⟨gk - 1, by omega⟩
          have HT' := Lib.hid (show T = (numR (bitsOf bs) p 1).bind fun last p => (numR (bitsOf bs) p 2).bind fun kind p =>
            ((if kind = 0 then storedR (bitsOf bs) mo out p else if kind = 1 then codedR (bitsOf bs) mo fixedL fixedD out p else if kind = 2 then dynamicR (bitsOf bs) mo out p else .bad false : Res (List Int))).bind fun out p =>
              if last = 0 then blocksR (bitsOf bs) mo f out p else .ok out p from hT)
          clear hT HT
          go_wp2_with fail
          refine (rnumber_any base s bs p out (mo : Int) 0 1 wr H.out HBy.out hbl9 (by omega)).mono ?_
          rintro ev w3 ⟨la, p3, e3, rfl, hx3, hs3, st3, tk3, -⟩
          have H3 := Lib.hid hs3
          have S3 := Lib.hid (S.out.trans st3)
          have T3 := Lib.hid (rtook_next (fun b => numR_bad) (.inr ⟨rfl, HT'.out⟩) tk3)
          have hla2 : la < 2 := hx3
          have TK3 := Lib.hid tk3
          clear hs3 st3 tk3 H S HT' c4 hx3
          go_wp2_with fail
          refine (rnumber_any base s bs p3 out (mo : Int) e3 2 w3 H3.out HBy.out hbl9 (by omega)).mono ?_
          rintro ev w4 ⟨kd, p4, e4, rfl, hx4, hs4, st4, tk4, -⟩
          have H4 := Lib.hid hs4
          have S4 := Lib.hid (S3.out.trans st4)
          have T4 := Lib.hid (rtook_next (fun b => numR_bad) T3.out tk4)
          have hkd4 : kd < 4 := hx4
          have c44 := hs4.c4
          have h34 := hs4.2.2.1
          by_cases he : e4 = 0
          · have hp4 : p4 = p + 1 + 2 := by
              subst he
              obtain ⟨z3, a1⟩ := rtook_ok tk4
              have t3 := TK3.out
              rw [z3] at t3
              have a2 := (rtook_ok t3).2
              omega
            have HT' := Lib.hid ((T4.out.resolve_left (fun h => by omega)).2)
            subst he hp4
            clear hs4 st4 tk4 H3 S3 T3 T4 TK3 hx4
            obtain rfl | rfl | rfl | rfl : kd = 0 ∨ kd = 1 ∨ kd = 2 ∨ kd = 3 := by omega
            · rw [if_pos rfl] at HT'
              go_wp2_with fail
              refine (rstored_any base s bs (p + 1 + 2) out mo w4 H4.out HBy.out hbl9 hmo hol).mono ?_
              rintro ev w6 ⟨p6, o6, e6, rfl, hs6, st6, ho6, ag6⟩
              have H6 := Lib.hid hs6
              have S6 := Lib.hid (S4.out.trans st6)
              have TF := Lib.hid (after_block (la := la) ag6 HT'.out (fun a q h => storedR_mono h) (show 8 * bs.length + 1 ≤ f + 1 + p by omega))
              clear hs6 st6 ag6 H4 S4 c44 HT'
              go_wp2
              go_roundg f
              case measure => omega
              case rel => exact ⟨o6, p6, e6, la, rfl, H6.out, S6.out, ho6, TF.out⟩
            · rw [if_neg (by decide), if_pos rfl] at HT'
              go_wp2_with fail
              refine (rfixed_any w4).mono ?_
              rintro ev w5 ⟨Al, Ad, cl, cd, rfl, hrl, hrd, hb5⟩
              have RL := Lib.hid hrl
              have RD := Lib.hid hrd
              have H5 := Lib.hid (H4.out.below hb5)
              have S5 := Lib.hid (S4.out.trans (StStep.of_below hb5 h34))
              clear hrl hrd hb5 H4 S4 c44
              go_wp2_with fail
              refine (rcoded_any base s bs fixedL fixedD (p + 1 + 2) out mo Al Ad 288 32 cl cd w5 H5.out RL.out RD.out (by omega) (by omega) HBy.out hbl9 hmo hol).mono ?_
              have H4 := H5
              have S4 := S5
              have c44 := H5.out.c4
              rintro ev w6 ⟨p6, o6, e6, rfl, hs6, st6, ho6, ag6⟩
              have H6 := Lib.hid hs6
              have S6 := Lib.hid (S4.out.trans st6)
              have TF := Lib.hid (after_block (la := la) ag6 HT'.out (fun a q h => codedR_mono h) (show 8 * bs.length + 1 ≤ f + 1 + p by omega))
              clear hs6 st6 ag6 H4 S4 c44 HT'
              go_wp2
              go_roundg f
              case measure => omega
              case rel => exact ⟨o6, p6, e6, la, rfl, H6.out, S6.out, ho6, TF.out⟩
            · rw [if_neg (by decide), if_neg (by decide), if_pos rfl] at HT'
              go_wp2_with fail
              refine (rdynamic_any base s bs (p + 1 + 2) out mo w4 H4.out HBy.out hbl9 hmo hol).mono ?_
              rintro ev w6 ⟨p6, o6, e6, rfl, hs6, st6, ho6, ag6⟩
              have H6 := Lib.hid hs6
              have S6 := Lib.hid (S4.out.trans st6)
              have TF := Lib.hid (after_block (la := la) ag6 HT'.out (fun a q h => dynamicR_mono h) (show 8 * bs.length + 1 ≤ f + 1 + p by omega))
              clear hs6 st6 ag6 H4 S4 c44 HT'
              go_wp2
              go_roundg f
              case measure => omega
              case rel => exact ⟨o6, p6, e6, la, rfl, H6.out, S6.out, ho6, TF.out⟩
            · rw [if_neg (by decide), if_neg (by decide), if_neg (by decide)] at HT'
              simp only [Res.bind] at HT'
              go_wp2_with fail
              refine (rfail_any base s bs (p + 1 + 2) out (mo : Int) 0 4 w4 H4.out).mono ?_
              rintro ev w6 ⟨rfl, hs6, st6, _⟩
              rw [if_pos rfl] at hs6
              have H6 := Lib.hid hs6
              have S6 := Lib.hid (S4.out.trans st6)
              clear hs6 st6 H4 S4 c44
              go_wp2
              go_roundg f
              case measure => omega
              case rel => exact ⟨out, p + 1 + 2, 4, la, rfl, H6.out, S6.out, hol, .inr (.inr ⟨false, rfl, HT'.out⟩)⟩
          · obtain ⟨h4, hTb⟩ := T4.out.resolve_right (fun h => he h.1)
            have HT' := Lib.hid hTb
            subst h4
            clear hs4 st4 tk4 H3 S3 T3 T4 TK3 hx4 he hTb
            go_wp2
            refine wp_region_qs (fun _ w' => w'.cell? ⟨s, 4, none⟩ = some (.int .i64 4)) [(0, some 0), (1, some 0), (2, some 0), (3, some 0), (4, some 0), (5, some 0), (6, some 0)] (by kernel_rfl) (by kernel_rfl) (by kernel_rfl) (by kernel_rfl) (by kernel_rfl) (fun _ _ _ _ _ h => h) c44 ?_
            simp only [List.map_cons, List.map_nil, List.getD_cons_succ, List.getD_cons_zero]
            (repeat (first | (refine qs_now (v := ?_) (by rfl) ?_ ?_; rotate_left 1; (· (intro w' hS; go_simp; (try (simp only [↓IntWalk.iteOmega]; go_simp)); (try simp (disch := omega) only [IntWalk.i64_in]); try with_reducible rfl)); simp only [Act.put, List.setIfInBounds_toArray, List.set_cons_zero, List.set_cons_succ]) | (refine qs_run (v := ?_) (by rfl) ?_ ?_; rotate_left 1; (· (intro j w' hS; go_simp; (try (simp only [↓IntWalk.iteOmega]; go_simp)); (try simp (disch := omega) only [IntWalk.i64_in]); try with_reducible rfl)); simp only [Act.put, List.setIfInBounds_toArray, List.set_cons_zero, List.set_cons_succ]) | (refine qs_skip (by rfl) ?_; simp only [Act.put, List.setIfInBounds_toArray, List.set_cons_zero, List.set_cons_succ])))
            refine qs_nil ?_
            go_wp2
            go_ret3
            rw [HP.out, HT'.out]
            exact ⟨(FIN.out _ S4.out).drew, rfl⟩
        · have HT' := Lib.hid hT
          clear hT HT
          have dla : ((la : Int) == 0) = false := by simp; omega
          obtain ⟨g1, g2, g3, g4, A0, c0, vv, q7, q6, qA, q8, q9⟩ := H.out
          obtain ⟨Ao, co, rfl, _⟩ := own_slice q8
          have c2 := q7.cell (i := 2) (v := .slice Ao out.length co) rfl
          have c1 := q7.cell (i := 1) (v := .int .i64 (p : Int)) rfl
          have O := Lib.hid q8
          have O9 := Lib.hid q9
          clear q7 q8 q9 q6 qA
          go_wp2
          refine wp_region_qs (fun _ w' => w'.cell? ⟨s, 2, none⟩ = some (.slice Ao out.length co) ∧ w'.cell? ⟨s, 1, none⟩ = some (.int .i64 (p : Int))) [(0, some 0), (1, some 0), (2, some 0), (3, some 0), (4, some 0), (5, some 0), (6, some 0), (7, some 0), (8, some 0), (9, some 0), (10, some 0), (11, some 0), (12, some 0)] (by kernel_rfl) (by kernel_rfl) (by kernel_rfl) (by kernel_rfl) (by kernel_rfl) (fun _ _ _ _ _ h => h) ⟨c2, c1⟩ ?_
          simp only [List.map_cons, List.map_nil, List.getD_cons_succ, List.getD_cons_zero]
          (repeat (first | (refine qs_now (v := ?_) (by rfl) ?_ ?_; rotate_left 1; (· (intro w' hS; go_simp; (try (simp only [↓IntWalk.iteOmega]; go_simp)); (try simp (disch := omega) only [IntWalk.i64_in]); try with_reducible rfl)); simp only [Act.put, List.setIfInBounds_toArray, List.set_cons_zero, List.set_cons_succ]) | (refine qs_run (v := ?_) (by rfl) ?_ ?_; rotate_left 1; (· (intro j w' hS; go_simp; (try (simp only [↓IntWalk.iteOmega]; go_simp)); (try simp (disch := omega) only [IntWalk.i64_in]); try with_reducible rfl)); simp only [Act.put, List.setIfInBounds_toArray, List.set_cons_zero, List.set_cons_succ]) | (refine qs_skip (by rfl) ?_; simp only [Act.put, List.setIfInBounds_toArray, List.set_cons_zero, List.set_cons_succ])))
          refine qs_nil ?_
          go_wp2
          go_ret3
          rw [HP.out, HT'.out]
          have B8 := Lib.hid ((Below.refl wr.heap.size wr).drew)
          refine ⟨FIN.out _ (S.out.trans (StStep.of_below B8.out g3)), Ao, co, ?_, ?_, g4⟩
          · show Ending.returned (.tuple #[.slice Ao out.length co, .int .i64 (IntKind.i64.wrap (((p : Int) + 7).tdiv 8)), .int .i64 0]) = _
            rw [show (p : Int) + 7 = (p : Int) + 8 - 1 by omega, end_num p (by omega)]
          · exact own_from (own_below O.out B8.out) (fun j hj => by have := O9.out j hj; omega)
        · have HT' := Lib.hid hT
          clear hT HT
          have hne := errOf_ne b
          obtain ⟨E, hE⟩ : ∃ E, E = errOf b := ⟨_, rfl⟩
          rw [← hE] at c4 H hne
          have dE1 : (E == 0) = false := by simpa using hne
          have dE2 : (E != 0) = true := by simpa using hne
          have HE := Lib.hid hE
          clear hE hne
          by_cases hla : la = 0
          · subst hla
            go_wp2
            refine wp_region_qs (fun _ w' => w'.cell? ⟨s, 4, none⟩ = some (.int .i64 E)) [(0, some 0), (1, some 0), (2, some 0), (3, some 0), (4, some 0), (5, some 0), (6, some 0)] (by kernel_rfl) (by kernel_rfl) (by kernel_rfl) (by kernel_rfl) (by kernel_rfl) (fun _ _ _ _ _ h => h) c4 ?_
            simp only [List.map_cons, List.map_nil, List.getD_cons_succ, List.getD_cons_zero]
            (repeat (first | (refine qs_now (v := ?_) (by rfl) ?_ ?_; rotate_left 1; (· (intro w' hS; go_simp; (try (simp only [↓IntWalk.iteOmega]; go_simp)); (try simp (disch := omega) only [IntWalk.i64_in]); try with_reducible rfl)); simp only [Act.put, List.setIfInBounds_toArray, List.set_cons_zero, List.set_cons_succ]) | (refine qs_run (v := ?_) (by rfl) ?_ ?_; rotate_left 1; (· (intro j w' hS; go_simp; (try (simp only [↓IntWalk.iteOmega]; go_simp)); (try simp (disch := omega) only [IntWalk.i64_in]); try with_reducible rfl)); simp only [Act.put, List.setIfInBounds_toArray, List.set_cons_zero, List.set_cons_succ]) | (refine qs_skip (by rfl) ?_; simp only [Act.put, List.setIfInBounds_toArray, List.set_cons_zero, List.set_cons_succ])))
            refine qs_nil ?_
            go_wp2
            go_ret3
            rw [HP.out, HT'.out]
            have hE := HE.out
            subst hE
            exact ⟨(FIN.out _ S.out).drew, rfl⟩
          · have dla : ((la : Int) == 0) = false := by simp; omega
            go_wp2
            refine wp_region_qs (fun _ w' => w'.cell? ⟨s, 4, none⟩ = some (.int .i64 E)) [(0, some 0), (1, some 0), (2, some 0), (3, some 0), (4, some 0), (5, some 0), (6, some 0)] (by kernel_rfl) (by kernel_rfl) (by kernel_rfl) (by kernel_rfl) (by kernel_rfl) (fun _ _ _ _ _ h => h) c4 ?_
            simp only [List.map_cons, List.map_nil, List.getD_cons_succ, List.getD_cons_zero]
            (repeat (first | (refine qs_now (v := ?_) (by rfl) ?_ ?_; rotate_left 1; (· (intro w' hS; go_simp; (try (simp only [↓IntWalk.iteOmega]; go_simp)); (try simp (disch := omega) only [IntWalk.i64_in]); try with_reducible rfl)); simp only [Act.put, List.setIfInBounds_toArray, List.set_cons_zero, List.set_cons_succ]) | (refine qs_run (v := ?_) (by rfl) ?_ ?_; rotate_left 1; (· (intro j w' hS; go_simp; (try (simp only [↓IntWalk.iteOmega]; go_simp)); (try simp (disch := omega) only [IntWalk.i64_in]); try with_reducible rfl)); simp only [Act.put, List.setIfInBounds_toArray, List.set_cons_zero, List.set_cons_succ]) | (refine qs_skip (by rfl) ?_; simp only [Act.put, List.setIfInBounds_toArray, List.set_cons_zero, List.set_cons_succ])))
            refine qs_nil ?_
            go_wp2
            go_ret3
            rw [HP.out, HT'.out]
            have hE := HE.out
            subst hE
            exact ⟨(FIN.out _ S.out).drew, rfl⟩
end Go.Proofs.YtlhaehefhhcgaaaDoor
