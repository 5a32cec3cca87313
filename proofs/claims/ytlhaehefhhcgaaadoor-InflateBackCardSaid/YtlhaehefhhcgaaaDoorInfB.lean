/-
  inflate's rows of lengths, walked.
  inflate's blocks with codes of their own, walked.
  inflate.Inflate, walked.
  Plain: a text that may be as long as it is; one that may not.
  What Inflate hands back, as one value.
-/
import Derived.Test.YtlhaehefhhcgaaaDoorInfA
import Derived.Test.YtlhaehefhhcgaaaDoorMem
import Derived.Test.YtlhaehefhhcgaaaDoorInfSpec
import Derived.Laws.BytesArg
import Derived.ProofKit
namespace Go.Proofs.YtlhaehefhhcgaaaDoor
open Go.RowKit
set_option linter.unusedVariables false

/-- A row of numbers of the call's own has grown: the stream stays. -/
theorem StrOk.int {w w' : World} {base s r p b2 n : Nat} {bs out : List Int} {most e : Int} {u : Value} {xs : List Value} (h : StrOk w base s r bs p out most e) (ho : w.ownsRow b2 3 1 u n xs) (hb2 : base ≤ b2) (hg : w.grownBy w' u.ownBlock) : StrOk w' base s r bs p out most e := by
  obtain ⟨h1, h2, h3, h4, h5, h6, v, h7, h8, h9⟩ := h
  obtain ⟨c2, hrb⟩ := h1.blk
  have hlo : ∀ b, b < base → some b ≠ u.ownBlock := fun b hb e => by have := own_base ho e.symm; omega
  exact ⟨h1.keep (hg.block r hrb.lt (hlo r h3)) hg.size (fun b hb _ => hg.block b (by omega) (hlo b (by omega))), h2, h3, h4, Nat.le_trans h5 hg.size, h6, v, h7.grown hg (hlo s h4), h8.kept hg (own_apart h8 ho (by decide)), h9⟩
theorem StStep.int {w0 w w' : World} {base s r b2 n : Nat} {u : Value} {xs : List Value} (h : StStep w0 w base s r) (ho : w.ownsRow b2 3 1 u n xs) (hb2 : w0.heap.size ≤ b2) (hbase : base ≤ w0.heap.size) (hg : w.grownBy w' u.ownBlock) : StStep w0 w' base s r := by
  have hlo : ∀ b, b < w0.heap.size → some b ≠ u.ownBlock := fun b hb e => by have := own_base ho e.symm; omega
  have hs := h.size
  exact ⟨hg.os.trans h.os, hg.tape.trans h.tape, hg.output.trans h.output, Nat.le_trans h.size hg.size, fun k hk h1 h2 => (hg.block k (by omega) (hlo k (by omega))).trans (h.low k hk h1 h2), fun k hk ht h1 h2 => (hg.block k (by omega) (hlo k hk)).trans (h.typ k hk ht h1 h2)⟩

theorem StrOk.row {w w' : World} {base s r p b n : Nat} {bs out : List Int} {most e : Int} {v : Value} {xs : List Value} (h : StrOk w base s r bs p out most e) (hst : StStep w w' base s r) (hk : w.ownsRow b 3 1 v n xs) : w'.ownsRow b 3 1 v n xs := by
  obtain ⟨c1, h1⟩ := h.sblk
  obtain ⟨c2, h2⟩ := h.1.blk
  exact hst.row h1 h2 hk (by decide) (by decide) (by decide)
/-- A step that reads, the first. -/
theorem took_next2 {T1 : Res Nat} {v p2 : Nat} {e2 : Int} {T : Res (List Int)} {G : Nat → Nat → Res (List Int)} (hb : ∀ b, T1 = .bad b → b = false) (h1 : T = T1.bind G) (h : Took 0 T1 v p2 e2) :
    (e2 = 4 ∧ T = .bad false) ∨ (e2 = 0 ∧ T = G v p2) := took_next hb (.inr ⟨rfl, h1⟩) h
theorem took_num {e2 e4 : Int} {bt : List Int} {p2 m x p4 : Nat} {T : Res (List Int)} {F : Nat → Nat → Res (Int × Nat)} {G : Int × Nat → Nat → Res (List Int)} (h1 : (e2 = 4 ∧ T = .bad false) ∨ (e2 = 0 ∧ T = ((numR bt p2 m).bind F).bind G)) (h : Took e2 (numR bt p2 m) x p4 e4) :
    (e4 = 4 ∧ T = .bad false) ∨ (e4 = 0 ∧ T = (F x p4).bind G) := by
  refine took_next (T1 := numR bt p2 m) (G := fun x p => (F x p).bind G) (fun b => numR_bad) (h1.imp id (fun ⟨a, b⟩ => ⟨a, ?_⟩)) h
  rw [b]
  cases numR bt p2 m <;> rfl
theorem own_cap {w : World} {base : Nat} {e : TypeId} {size n c : Nat} {A : Option Addr} {xs : List Value} (h : w.ownsRow base e size (.slice A n c) n xs) : n ≤ c := by
  obtain ⟨A', c', e, hc⟩ := own_slice h
  injection e with _ _ e
  omega
def LenI (base s r : Nat) (bs out : List Int) (p most : Nat) (e : Int) (acc : List Int) (val : Int) (kk : Nat) (w : World) (k : Nat) (sv iv : Value) (wr : World) : Prop :=
  ∃ j A c, iv = .int .i64 ((j : Nat) : Int) ∧ j + k = kk ∧ sv = .slice A (acc.length + j) c ∧ wr.ownsRow w.heap.size 3 1 sv (acc.length + j) ((acc ++ List.replicate j val).map (Value.int .i64)) ∧ StrOk wr base s r bs p out (most : Int) e ∧ StStep w wr base s r
def LenO (base s r : Nat) (bs out cs : List Int) (most n : Nat) (T : Res (List Int)) (w : World) (k : Nat) (sv : Value) (wr : World) : Prop :=
  ∃ acc p e A c, sv = .slice A acc.length c ∧ wr.ownsRow w.heap.size 3 1 sv acc.length (acc.map (Value.int .i64)) ∧ StrOk wr base s r bs p out (most : Int) e ∧ StStep w wr base s r ∧ acc.length ≤ n + 500 ∧
    ((e = 0 ∧ T = lensR (bitsOf bs) cs n k acc p ∧ 8 * bs.length + 1 ≤ k + p ∧ acc.length ≤ n) ∨ (e = 4 ∧ T = .bad false))
def LensAgree (T : Res (List Int)) (n : Nat) (w' : World) (A : Option Addr) (m p' : Nat) (e' : Int) : Prop := match T with
  | .ok all q => e' = 0 ∧ p' = q ∧ m = n ∧ RdI .i64 w' A n all
  | .bad b => e' = errOf b
def LensPost (base s r : Nat) (bs out : List Int) (most n : Nat) (T : Res (List Int)) (w : World) (ev : Ending) (w' : World) : Prop :=
  ∃ A m c p' e', ev = .returned (.slice A m c) ∧ m ≤ c ∧ StrOk w' base s r bs p' out (most : Int) e' ∧ StStep w w' base s r ∧ LensAgree T n w' A m p' e'

theorem tailend {T T' : Res (List Int)} {e : Int} {p1 p2 f len L n : Nat} (h : (e = 4 ∧ T = .bad false) ∨ (e = 0 ∧ T = T' ∧ p1 < p2)) (hk : len + 1 ≤ f + 1 + p1) (hL : L ≤ n) : (e = 0 ∧ T = T' ∧ len + 1 ≤ f + p2 ∧ L ≤ n) ∨ (e = 4 ∧ T = .bad false) := by
  rcases h with h | ⟨a, b, c⟩
  · exact .inr h
  · exact .inl ⟨a, b, by omega, hL⟩
set_option maxHeartbeats 1600000 in
theorem ilens_any (base s r gd : Nat) (bs cs : List Int) (p : Nat) (out : List Int) (most n : Nat) (w : World) (h : StrOk w base s r bs p out (most : Int) 0) (hd : DecOk w gd cs) (hok : countsOk cs = true) (hB : Bytes bs) (hl : bs.length ≤ 1000000000) (hn : n ≤ 1000) :
    Calls Tryd.prog 60 #[.pointer (some ⟨s, 0, none⟩), .pointer (some ⟨gd, 0, none⟩), .int .i64 (n : Int)] w (LensPost base s r bs out most n (lensR (bitsOf bs) cs n (8 * bs.length + 1) [] p) w) := by
  have H := Lib.hid h
  have HD := Lib.hid hd
  have HBy := Lib.hid hB
  obtain ⟨_, h2, h3, h4, h5, h6, _⟩ := h
  clear hd hB
  obtain ⟨T, hT⟩ : ∃ T, T = lensR (bitsOf bs) cs n (8 * bs.length + 1) [] p := ⟨_, rfl⟩
  rw [← hT]
  have HT := Lib.hid hT
  clear hT
  go_enter Tryd.func60, Tryd.ntmps60
  go_wp2
  go_loopg [7] (8 * bs.length + 1) (LenO base s r bs out cs most n T w)
  case atStart => exact ⟨[], p, 0, none, 0, rfl, ⟨rfl, .inl ⟨rfl, rfl⟩⟩, H.out, StStep.refl _ _ _ _, by simp, .inl ⟨rfl, HT.out, by omega, by simp⟩⟩
  case round =>
    clear HT
    obtain ⟨acc, p1, e1, A, c, rfl, ho, hs, hst, hlen, hT⟩ := hrel
    obtain ⟨wo, rfl⟩ : ∃ wo : World, wo = wr := ⟨_, rfl⟩
    have HO := Lib.hid ho
    have HS := Lib.hid hs
    have HSt := Lib.hid hst
    have HT := Lib.hid hT
    obtain ⟨_, p1l, _, _, h5', _, vv, q7, _, _⟩ := hs
    have c3 := q7.cell (i := 3) (v := .int .i64 e1) rfl
    clear ho hst hT q7
    rcases HT.out with ⟨rfl, hT, hk, hln⟩ | ⟨rfl, hT⟩
    · have HTk := Lib.hid hT
      clear hT HT
      by_cases hlt : acc.length < n
      · have hltI : (acc.length : Int) < n := by omega
        obtain ⟨f, rfl⟩ : ∃ f, gk = f + 1 := ⟨gk - 1, by omega⟩
        have HT' := Lib.hid (show T = (symR (bitsOf bs) cs p1).bind fun s p =>
          (if s = 16 then (if acc.length = 0 then .bad false else (numR (bitsOf bs) p 2).bind fun x p => .ok (acc.getD (acc.length - 1) 0, 3 + x) p)
           else if s = 17 then (numR (bitsOf bs) p 3).bind fun x p => .ok (0, 3 + x) p
           else if s = 18 then (numR (bitsOf bs) p 7).bind fun x p => .ok (0, 11 + x) p
           else .ok ((s : Int), 1) p : Res (Int × Nat)).bind fun vk p =>
            if n < acc.length + vk.2 then .bad false else lensR (bitsOf bs) cs n f (acc ++ List.replicate vk.2 vk.1) p from by rw [HTk.out, lensR, if_neg (by omega)])
        clear HTk
        go_wp2_with fail
        refine (symbol_any base s r gd bs cs p1 out (most : Int) 0 wo HS.out (H.out.dec HSt.out HD.out) hok HBy.out hl).mono ?_
        rintro ev w2 ⟨v, p2, e2, rfl, hv, hs2, st2, tk2⟩
        have hv288 : v ≤ 288 := by have := len_of hok; omega
        have H2 := Lib.hid hs2
        have h52 := hs2.2.2.2.2.1
        have S2 := Lib.hid (HSt.out.trans st2)
        have O2 := Lib.hid (HS.out.row st2 HO.out)
        have T2 := Lib.hid (took_next2 (fun b => symR_bad) HT'.out tk2)
        have P2 := Lib.hid (show e2 = 0 → p1 < p2 from fun h0 => by
          rcases took_or tk2 with ⟨hh, _⟩ | ⟨b, _, _, he⟩
          · exact (symR_ok (by rw [bitsOf_len]; exact p1l) hh).1
          · rw [if_pos rfl] at he; exact absurd (he.symm.trans h0) (errOf_ne b))
        have hw0 : w.heap.size ≤ wo.heap.size := HSt.out.size
        have hw2 : wo.heap.size ≤ w2.heap.size := st2.size
        clear hs2 st2 tk2 HS HSt HO HT' c3
        by_cases h16 : v = 16
        · subst h16
          rw [if_pos rfl] at T2
          by_cases h0 : acc.length = 0
          · rw [if_pos h0] at T2
            have d0 : ((acc.length : Int) == 0) = true := by simpa using h0
            have hle0 : acc.length ≤ 0 := by omega
            have HE := Lib.hid (show (if e2 = 0 then (4 : Int) else e2) = 4 ∧ T = .bad false by
              rcases T2.out with ⟨a, b⟩ | ⟨a, b⟩
              · rw [a]; exact ⟨rfl, b⟩
              · rw [if_pos a]; exact ⟨rfl, b⟩)
            clear h0 T2
            go_wp2_with (go_at_call 32; refine (fail_any base s r bs p2 out (most : Int) e2 4 w2 H2.out).mono ?_; rintro ev w5 ⟨rfl, h5', s5, _⟩; have H3 := Lib.hid h5'; have S3 := Lib.hid (S2.out.trans s5); clear h5' s5)
            go_ret
            rw [HE.out.1] at H3
            exact ⟨_, _, _, p2, 4, rfl, Nat.le_refl _, H3.out, S3.out, by rw [HE.out.2]; rfl⟩
          · rw [if_neg h0] at T2
            have d0 : ((acc.length : Int) == 0) = false := by simpa using h0
            have hpos : 0 < acc.length := by omega
            obtain ⟨g, cap0, hv0, _, hglt⟩ := O2.out.form hpos
            injection hv0 with hv0 _ hv1
            subst hv0 hv1
            have cx := O2.out.cells (g := g) rfl (acc.length - 1) (Value.int .i64 (acc.getD (acc.length - 1) 0)) (by simp [show acc.length - 1 < acc.length by omega])
            rw [Addr.add_mid, Nat.zero_add] at cx
            generalize hx0 : acc.getD (acc.length - 1) 0 = x0 at *
            have HX0 := Lib.hid hx0
            clear hx0
            have hposI : (1 : Int) ≤ acc.length := by omega
            go_wp2
            refine wp_region_qs (fun j w' => j ≤ 1 → w'.cell? ⟨g, acc.length - 1, none⟩ = some (.int .i64 x0)) [(0, some 1), (1, some 1), (2, some 1), (3, some 1), (4, some 1), (5, some 1), (6, some 0), (7, none), (8, some 1), (9, some 1), (10, some 1)] (by kernel_rfl) (by kernel_rfl) (by kernel_rfl) (by kernel_rfl) (by kernel_rfl) (fun _ _ _ _ _ h => h) (fun _ => cx) ?_
            simp only [List.map_cons, List.map_nil, List.getD_cons_succ, List.getD_cons_zero]
            (repeat (first | (refine qs_now (v := ?_) (by rfl) ?_ ?_; rotate_left 1; (· (intro w' hS; go_simp; (try (simp only [↓IntWalk.iteOmega]; go_simp)); (try simp (disch := omega) only [IntWalk.i64_in]); try with_reducible rfl)); simp only [Act.put, List.setIfInBounds_toArray, List.set_cons_zero, List.set_cons_succ]) | (refine qs_run (v := ?_) (by rfl) ?_ ?_; rotate_left 1; (· (intro j w' hS; go_simp; (try (simp only [↓IntWalk.iteOmega]; go_simp)); (try simp (disch := omega) only [IntWalk.i64_in]); try with_reducible rfl)); simp only [Act.put, List.setIfInBounds_toArray, List.set_cons_zero, List.set_cons_succ]) | (refine qs_mid (v := ?_) (by rfl) ?_ ?_; rotate_left 1; (· (intro j w' hj1 hj2 hS; go_simp; (try (simp only [↓IntWalk.iteOmega]; go_simp)); (try simp (disch := omega) only [IntWalk.i64_in]); try with_reducible rfl)); simp only [Act.put, List.setIfInBounds_toArray, List.set_cons_zero, List.set_cons_succ]) | (refine qs_skip (by rfl) ?_; simp only [Act.put, List.setIfInBounds_toArray, List.set_cons_zero, List.set_cons_succ])))
            refine qs_act ?_
            go_wp2_with fail
            have hdr := (Below.refl w2.heap.size w2).drew
            have H2' := Lib.hid (H2.out.below hdr)
            have S2' := Lib.hid (S2.out.trans (StStep.of_below hdr h52))
            have O2' := Lib.hid (own_below O2.out hdr)
            clear hdr H2 S2 O2
            have H2 := H2'
            have S2 := S2'
            have O2 := O2'
            clear H2' S2' O2'
            refine (number_any base s r bs p2 out (most : Int) e2 2 w2.drew H2.out HBy.out hl (by omega)).mono ?_
            rintro ev w4 ⟨x, p4, e4, rfl, hx, hs4, st4, tk4, _⟩
            have H4 := Lib.hid hs4
            have h54 := hs4.2.2.2.2.1
            have S4 := Lib.hid (S2.out.trans st4)
            have O4 := Lib.hid (H2.out.row st4 O2.out)
            have T4 := Lib.hid (took_num T2.out tk4)
            have P4 := Lib.hid (show e4 = 0 → p1 < p4 from fun h0 => by
              rcases took_or tk4 with ⟨hh, he⟩ | ⟨b, _, _, he⟩
              · have := (numR_ok hh).1; have := P2.out (he.symm.trans h0); omega
              · by_cases h00 : e2 = 0
                · rw [if_pos h00] at he; exact absurd (he.symm.trans h0) (errOf_ne b)
                · rw [if_neg h00] at he; exact absurd (he.symm.trans h0) h00)
            have hxk : x ≤ 150 := by omega
            have TF := Lib.hid (show (e4 = 4 ∧ T = .bad false) ∨ (e4 = 0 ∧ (T = if n < acc.length + (3 + x) then .bad false else lensR (bitsOf bs) cs n f (acc ++ List.replicate (3 + x) x0) p4) ∧ p1 < p4) by
              rcases T4.out with ⟨a, b⟩ | ⟨a, b⟩
              · exact .inl ⟨a, b⟩
              · exact .inr ⟨a, b, P4.out a⟩)
            clear hs4 st4 tk4 H2 S2 O2 T2 P2 T4 P4 hx
            have cx' := O4.out.cells (g := g) rfl (acc.length - 1) (Value.int .i64 (acc.getD (acc.length - 1) 0)) (by simp [show acc.length - 1 < acc.length by omega])
            rw [Addr.add_mid, Nat.zero_add, HX0.out] at cx'
            clear cx
            go_wp2
            refine ⟨fun _ => cx', ?_⟩
            (repeat (first | (refine qs_now (v := ?_) (by rfl) ?_ ?_; rotate_left 1; (· (intro w' hS; go_simp; (try (simp only [↓IntWalk.iteOmega]; go_simp)); (try simp (disch := omega) only [IntWalk.i64_in]); try with_reducible rfl)); simp only [Act.put, List.setIfInBounds_toArray, List.set_cons_zero, List.set_cons_succ]) | (refine qs_run (v := ?_) (by rfl) ?_ ?_; rotate_left 1; (· (intro j w' hS; go_simp; (try (simp only [↓IntWalk.iteOmega]; go_simp)); (try simp (disch := omega) only [IntWalk.i64_in]); try with_reducible rfl)); simp only [Act.put, List.setIfInBounds_toArray, List.set_cons_zero, List.set_cons_succ]) | (refine qs_mid (v := ?_) (by rfl) ?_ ?_; rotate_left 1; (· (intro j w' hj1 hj2 hS; go_simp; (try (simp only [↓IntWalk.iteOmega]; go_simp)); (try simp (disch := omega) only [IntWalk.i64_in]); try with_reducible rfl)); simp only [Act.put, List.setIfInBounds_toArray, List.set_cons_zero, List.set_cons_succ]) | (refine qs_skip (by rfl) ?_; simp only [Act.put, List.setIfInBounds_toArray, List.set_cons_zero, List.set_cons_succ])))
            refine qs_nil ?_
            clear cx'
            by_cases hbig : n < acc.length + (3+x)
            · have hbigI : (n : Int) < (acc.length : Int) + (3+x) := by omega
              go_wp2_with (go_at_call 32; refine (fail_any base s r bs p4 out (most : Int) e4 4 w4 H4.out).mono ?_; rintro ev w5 ⟨rfl, h5', s5, _⟩; have H3 := Lib.hid h5'; have S3 := Lib.hid (S4.out.trans s5); have O3 := Lib.hid (H4.out.row s5 O4.out); clear h5' s5)
              clear H4 S4 O4
              have HE := Lib.hid (show (if e4 = 0 then (4 : Int) else e4) = 4 ∧ T = .bad false by
                rcases TF.out with ⟨a, b⟩ | ⟨a, b, _⟩
                · rw [a]; exact ⟨rfl, b⟩
                · rw [if_pos hbig] at b
                  rw [if_pos a]; exact ⟨rfl, b⟩)
              rw [HE.out.1] at H3
              clear TF
              go_loopg [7, 60] ((3+x)) (LenI base s r bs out p4 most 4 acc x0 (3+x) w)
              case atStart => exact ⟨0, _, _, rfl, by omega, rfl, by simpa using O3.out, H3.out, S3.out⟩
              case round =>
                clear O3 H3 S3
                obtain ⟨j, A3, c3, rfl, hj, rfl, ho3, hs3, st3⟩ := hrel
                have O3 := Lib.hid ho3
                have H3 := Lib.hid hs3
                have S3 := Lib.hid st3
                have hw3 := hs3.2.2.2.2.1
                have hw4 := st3.size
                clear ho3 hs3 st3
                by_cases hjl : j < (3+x)
                · have hjI : (j : Int) < (3+x) := by omega
                  go_wp2_with (refine app_int rfl (.tmp 62) (.tmp 64) rfl w.heap.size _ (acc.length + j) _ wr.heap.size _ 3 rfl (O3.out.alloc _) rfl (Blk.made _ _ _) (by omega) (by simp; omega) ?_; intro g6 cap6 w6 ho6 hg6 hor6 hlt6; have HO6 := Lib.hid ho6; have HG6 := Lib.hid hg6; clear ho6 hg6 hor6 hlt6)
                  go_roundg (gk - 1)
                  case rel =>
                    have hb := (Below.refl wr.heap.size wr).alloc (Nat.le_refl _) (.cells #[.int .i64 (x0)] 3)
                    refine ⟨j + 1, _, _, by go_num, by omega, rfl, ?_, (H3.out.below hb).int (own_below O3.out hb) h5 HG6.out, (S3.out.trans (StStep.of_below hb hw3)).int (own_below O3.out hb) (Nat.le_refl _) h5 HG6.out⟩
                    have := HO6.out
                    rw [List.append_assoc, ← List.replicate_succ'] at this
                    exact this
                  case measure => omega
                · have hjI : ¬ (j : Int) < (3+x) := by omega
                  obtain rfl : j = (3+x) := by omega
                  go_wp2
                  go_roundg f
                  case measure => omega
                  case rel =>
                    refine ⟨acc ++ List.replicate ((3+x)) (x0), p4, 4, A3, c3, by simp, by simpa using O3.out, H3.out, S3.out, by simp; omega, ?_⟩
                    (exact .inr ⟨rfl, HE.out.2⟩)
            ·
              have hbigI : ¬ (n : Int) < (acc.length : Int) + (3+x) := by omega
              go_wp2
              rw [if_neg hbig] at TF
              have H3 := H4
              have S3 := S4
              have O3 := O4
              clear H4 S4 O4
              go_loopg [7, 60] ((3+x)) (LenI base s r bs out p4 most e4 acc x0 (3+x) w)
              case atStart => exact ⟨0, _, _, rfl, by omega, rfl, by simpa using O3.out, H3.out, S3.out⟩
              case round =>
                clear O3 H3 S3
                obtain ⟨j, A3, c3, rfl, hj, rfl, ho3, hs3, st3⟩ := hrel
                have O3 := Lib.hid ho3
                have H3 := Lib.hid hs3
                have S3 := Lib.hid st3
                have hw3 := hs3.2.2.2.2.1
                have hw4 := st3.size
                clear ho3 hs3 st3
                by_cases hjl : j < (3+x)
                · have hjI : (j : Int) < (3+x) := by omega
                  go_wp2_with (refine app_int rfl (.tmp 62) (.tmp 64) rfl w.heap.size _ (acc.length + j) _ wr.heap.size _ 3 rfl (O3.out.alloc _) rfl (Blk.made _ _ _) (by omega) (by simp; omega) ?_; intro g6 cap6 w6 ho6 hg6 hor6 hlt6; have HO6 := Lib.hid ho6; have HG6 := Lib.hid hg6; clear ho6 hg6 hor6 hlt6)
                  go_roundg (gk - 1)
                  case rel =>
                    have hb := (Below.refl wr.heap.size wr).alloc (Nat.le_refl _) (.cells #[.int .i64 (x0)] 3)
                    refine ⟨j + 1, _, _, by go_num, by omega, rfl, ?_, (H3.out.below hb).int (own_below O3.out hb) h5 HG6.out, (S3.out.trans (StStep.of_below hb hw3)).int (own_below O3.out hb) (Nat.le_refl _) h5 HG6.out⟩
                    have := HO6.out
                    rw [List.append_assoc, ← List.replicate_succ'] at this
                    exact this
                  case measure => omega
                · have hjI : ¬ (j : Int) < (3+x) := by omega
                  obtain rfl : j = (3+x) := by omega
                  go_wp2
                  go_roundg f
                  case measure => omega
                  case rel =>
                    refine ⟨acc ++ List.replicate ((3+x)) (x0), p4, e4, A3, c3, by simp, by simpa using O3.out, H3.out, S3.out, by simp; omega, ?_⟩
                    (exact tailend TF.out hk (by simp; omega))
        by_cases h17 : v = 17
        · subst h17
          rw [if_neg (by decide), if_pos rfl] at T2
          go_wp2_with fail
          refine (number_any base s r bs p2 out (most : Int) e2 3 w2 H2.out HBy.out hl (by omega)).mono ?_
          rintro ev w4 ⟨x, p4, e4, rfl, hx, hs4, st4, tk4, _⟩
          have H4 := Lib.hid hs4
          have h54 := hs4.2.2.2.2.1
          have S4 := Lib.hid (S2.out.trans st4)
          have O4 := Lib.hid (H2.out.row st4 O2.out)
          have T4 := Lib.hid (took_num T2.out tk4)
          have P4 := Lib.hid (show e4 = 0 → p1 < p4 from fun h0 => by
            rcases took_or tk4 with ⟨hh, he⟩ | ⟨b, _, _, he⟩
            · have := (numR_ok hh).1; have := P2.out (he.symm.trans h0); omega
            · by_cases h00 : e2 = 0
              · rw [if_pos h00] at he; exact absurd (he.symm.trans h0) (errOf_ne b)
              · rw [if_neg h00] at he; exact absurd (he.symm.trans h0) h00)
          have hxk : x ≤ 150 := by omega
          have TF := Lib.hid (show (e4 = 4 ∧ T = .bad false) ∨ (e4 = 0 ∧ (T = if n < acc.length + (3 + x) then .bad false else lensR (bitsOf bs) cs n f (acc ++ List.replicate (3 + x) 0) p4) ∧ p1 < p4) by
            rcases T4.out with ⟨a, b⟩ | ⟨a, b⟩
            · exact .inl ⟨a, b⟩
            · exact .inr ⟨a, b, P4.out a⟩)
          clear hs4 st4 tk4 H2 S2 O2 T2 P2 T4 P4 hx
          by_cases hbig : n < acc.length + (3+x)
          · have hbigI : (n : Int) < (acc.length : Int) + (3+x) := by omega
            go_wp2_with (go_at_call 32; refine (fail_any base s r bs p4 out (most : Int) e4 4 w4 H4.out).mono ?_; rintro ev w5 ⟨rfl, h5', s5, _⟩; have H3 := Lib.hid h5'; have S3 := Lib.hid (S4.out.trans s5); have O3 := Lib.hid (H4.out.row s5 O4.out); clear h5' s5)
            clear H4 S4 O4
            have HE := Lib.hid (show (if e4 = 0 then (4 : Int) else e4) = 4 ∧ T = .bad false by
              rcases TF.out with ⟨a, b⟩ | ⟨a, b, _⟩
              · rw [a]; exact ⟨rfl, b⟩
              · rw [if_pos hbig] at b
                rw [if_pos a]; exact ⟨rfl, b⟩)
            rw [HE.out.1] at H3
            clear TF
            go_loopg [7, 60] ((3+x)) (LenI base s r bs out p4 most 4 acc 0 (3+x) w)
            case atStart => exact ⟨0, _, _, rfl, by omega, rfl, by simpa using O3.out, H3.out, S3.out⟩
            case round =>
              clear O3 H3 S3
              obtain ⟨j, A3, c3, rfl, hj, rfl, ho3, hs3, st3⟩ := hrel
              have O3 := Lib.hid ho3
              have H3 := Lib.hid hs3
              have S3 := Lib.hid st3
              have hw3 := hs3.2.2.2.2.1
              have hw4 := st3.size
              clear ho3 hs3 st3
              by_cases hjl : j < (3+x)
              · have hjI : (j : Int) < (3+x) := by omega
                go_wp2_with (refine app_int rfl (.tmp 62) (.tmp 64) rfl w.heap.size _ (acc.length + j) _ wr.heap.size _ 3 rfl (O3.out.alloc _) rfl (Blk.made _ _ _) (by omega) (by simp; omega) ?_; intro g6 cap6 w6 ho6 hg6 hor6 hlt6; have HO6 := Lib.hid ho6; have HG6 := Lib.hid hg6; clear ho6 hg6 hor6 hlt6)
                go_roundg (gk - 1)
                case rel =>
                  have hb := (Below.refl wr.heap.size wr).alloc (Nat.le_refl _) (.cells #[.int .i64 (0)] 3)
                  refine ⟨j + 1, _, _, by go_num, by omega, rfl, ?_, (H3.out.below hb).int (own_below O3.out hb) h5 HG6.out, (S3.out.trans (StStep.of_below hb hw3)).int (own_below O3.out hb) (Nat.le_refl _) h5 HG6.out⟩
                  have := HO6.out
                  rw [List.append_assoc, ← List.replicate_succ'] at this
                  exact this
                case measure => omega
              · have hjI : ¬ (j : Int) < (3+x) := by omega
                obtain rfl : j = (3+x) := by omega
                go_wp2
                go_roundg f
                case measure => omega
                case rel =>
                  refine ⟨acc ++ List.replicate ((3+x)) (0), p4, 4, A3, c3, by simp, by simpa using O3.out, H3.out, S3.out, by simp; omega, ?_⟩
                  (exact .inr ⟨rfl, HE.out.2⟩)
          ·
            have hbigI : ¬ (n : Int) < (acc.length : Int) + (3+x) := by omega
            go_wp2
            rw [if_neg hbig] at TF
            have H3 := H4
            have S3 := S4
            have O3 := O4
            clear H4 S4 O4
            go_loopg [7, 60] ((3+x)) (LenI base s r bs out p4 most e4 acc 0 (3+x) w)
            case atStart => exact ⟨0, _, _, rfl, by omega, rfl, by simpa using O3.out, H3.out, S3.out⟩
            case round =>
              clear O3 H3 S3
              obtain ⟨j, A3, c3, rfl, hj, rfl, ho3, hs3, st3⟩ := hrel
              have O3 := Lib.hid ho3
              have H3 := Lib.hid hs3
              have S3 := Lib.hid st3
              have hw3 := hs3.2.2.2.2.1
              have hw4 := st3.size
              clear ho3 hs3 st3
              by_cases hjl : j < (3+x)
              · have hjI : (j : Int) < (3+x) := by omega
                go_wp2_with (refine app_int rfl (.tmp 62) (.tmp 64) rfl w.heap.size _ (acc.length + j) _ wr.heap.size _ 3 rfl (O3.out.alloc _) rfl (Blk.made _ _ _) (by omega) (by simp; omega) ?_; intro g6 cap6 w6 ho6 hg6 hor6 hlt6; have HO6 := Lib.hid ho6; have HG6 := Lib.hid hg6; clear ho6 hg6 hor6 hlt6)
                go_roundg (gk - 1)
                case rel =>
                  have hb := (Below.refl wr.heap.size wr).alloc (Nat.le_refl _) (.cells #[.int .i64 (0)] 3)
                  refine ⟨j + 1, _, _, by go_num, by omega, rfl, ?_, (H3.out.below hb).int (own_below O3.out hb) h5 HG6.out, (S3.out.trans (StStep.of_below hb hw3)).int (own_below O3.out hb) (Nat.le_refl _) h5 HG6.out⟩
                  have := HO6.out
                  rw [List.append_assoc, ← List.replicate_succ'] at this
                  exact this
                case measure => omega
              · have hjI : ¬ (j : Int) < (3+x) := by omega
                obtain rfl : j = (3+x) := by omega
                go_wp2
                go_roundg f
                case measure => omega
                case rel =>
                  refine ⟨acc ++ List.replicate ((3+x)) (0), p4, e4, A3, c3, by simp, by simpa using O3.out, H3.out, S3.out, by simp; omega, ?_⟩
                  (exact tailend TF.out hk (by simp; omega))
        by_cases h18 : v = 18
        · subst h18
          rw [if_neg (by decide), if_neg (by decide), if_pos rfl] at T2
          go_wp2_with fail
          refine (number_any base s r bs p2 out (most : Int) e2 7 w2 H2.out HBy.out hl (by omega)).mono ?_
          rintro ev w4 ⟨x, p4, e4, rfl, hx, hs4, st4, tk4, _⟩
          have H4 := Lib.hid hs4
          have h54 := hs4.2.2.2.2.1
          have S4 := Lib.hid (S2.out.trans st4)
          have O4 := Lib.hid (H2.out.row st4 O2.out)
          have T4 := Lib.hid (took_num T2.out tk4)
          have P4 := Lib.hid (show e4 = 0 → p1 < p4 from fun h0 => by
            rcases took_or tk4 with ⟨hh, he⟩ | ⟨b, _, _, he⟩
            · have := (numR_ok hh).1; have := P2.out (he.symm.trans h0); omega
            · by_cases h00 : e2 = 0
              · rw [if_pos h00] at he; exact absurd (he.symm.trans h0) (errOf_ne b)
              · rw [if_neg h00] at he; exact absurd (he.symm.trans h0) h00)
          have hxk : x ≤ 150 := by omega
          have TF := Lib.hid (show (e4 = 4 ∧ T = .bad false) ∨ (e4 = 0 ∧ (T = if n < acc.length + (11 + x) then .bad false else lensR (bitsOf bs) cs n f (acc ++ List.replicate (11 + x) 0) p4) ∧ p1 < p4) by
            rcases T4.out with ⟨a, b⟩ | ⟨a, b⟩
            · exact .inl ⟨a, b⟩
            · exact .inr ⟨a, b, P4.out a⟩)
          clear hs4 st4 tk4 H2 S2 O2 T2 P2 T4 P4 hx
          by_cases hbig : n < acc.length + (11+x)
          · have hbigI : (n : Int) < (acc.length : Int) + (11+x) := by omega
            go_wp2_with (go_at_call 32; refine (fail_any base s r bs p4 out (most : Int) e4 4 w4 H4.out).mono ?_; rintro ev w5 ⟨rfl, h5', s5, _⟩; have H3 := Lib.hid h5'; have S3 := Lib.hid (S4.out.trans s5); have O3 := Lib.hid (H4.out.row s5 O4.out); clear h5' s5)
            clear H4 S4 O4
            have HE := Lib.hid (show (if e4 = 0 then (4 : Int) else e4) = 4 ∧ T = .bad false by
              rcases TF.out with ⟨a, b⟩ | ⟨a, b, _⟩
              · rw [a]; exact ⟨rfl, b⟩
              · rw [if_pos hbig] at b
                rw [if_pos a]; exact ⟨rfl, b⟩)
            rw [HE.out.1] at H3
            clear TF
            go_loopg [7, 60] ((11+x)) (LenI base s r bs out p4 most 4 acc 0 (11+x) w)
            case atStart => exact ⟨0, _, _, rfl, by omega, rfl, by simpa using O3.out, H3.out, S3.out⟩
            case round =>
              clear O3 H3 S3
              obtain ⟨j, A3, c3, rfl, hj, rfl, ho3, hs3, st3⟩ := hrel
              have O3 := Lib.hid ho3
              have H3 := Lib.hid hs3
              have S3 := Lib.hid st3
              have hw3 := hs3.2.2.2.2.1
              have hw4 := st3.size
              clear ho3 hs3 st3
              by_cases hjl : j < (11+x)
              · have hjI : (j : Int) < (11+x) := by omega
                go_wp2_with (refine app_int rfl (.tmp 62) (.tmp 64) rfl w.heap.size _ (acc.length + j) _ wr.heap.size _ 3 rfl (O3.out.alloc _) rfl (Blk.made _ _ _) (by omega) (by simp; omega) ?_; intro g6 cap6 w6 ho6 hg6 hor6 hlt6; have HO6 := Lib.hid ho6; have HG6 := Lib.hid hg6; clear ho6 hg6 hor6 hlt6)
                go_roundg (gk - 1)
                case rel =>
                  have hb := (Below.refl wr.heap.size wr).alloc (Nat.le_refl _) (.cells #[.int .i64 (0)] 3)
                  refine ⟨j + 1, _, _, by go_num, by omega, rfl, ?_, (H3.out.below hb).int (own_below O3.out hb) h5 HG6.out, (S3.out.trans (StStep.of_below hb hw3)).int (own_below O3.out hb) (Nat.le_refl _) h5 HG6.out⟩
                  have := HO6.out
                  rw [List.append_assoc, ← List.replicate_succ'] at this
                  exact this
                case measure => omega
              · have hjI : ¬ (j : Int) < (11+x) := by omega
                obtain rfl : j = (11+x) := by omega
                go_wp2
                go_roundg f
                case measure => omega
                case rel =>
                  refine ⟨acc ++ List.replicate ((11+x)) (0), p4, 4, A3, c3, by simp, by simpa using O3.out, H3.out, S3.out, by simp; omega, ?_⟩
                  (exact .inr ⟨rfl, HE.out.2⟩)
          ·
            have hbigI : ¬ (n : Int) < (acc.length : Int) + (11+x) := by omega
            go_wp2
            rw [if_neg hbig] at TF
            have H3 := H4
            have S3 := S4
            have O3 := O4
            clear H4 S4 O4
            go_loopg [7, 60] ((11+x)) (LenI base s r bs out p4 most e4 acc 0 (11+x) w)
            case atStart => exact ⟨0, _, _, rfl, by omega, rfl, by simpa using O3.out, H3.out, S3.out⟩
            case round =>
              clear O3 H3 S3
              obtain ⟨j, A3, c3, rfl, hj, rfl, ho3, hs3, st3⟩ := hrel
              have O3 := Lib.hid ho3
              have H3 := Lib.hid hs3
              have S3 := Lib.hid st3
              have hw3 := hs3.2.2.2.2.1
              have hw4 := st3.size
              clear ho3 hs3 st3
              by_cases hjl : j < (11+x)
              · have hjI : (j : Int) < (11+x) := by omega
                go_wp2_with (refine app_int rfl (.tmp 62) (.tmp 64) rfl w.heap.size _ (acc.length + j) _ wr.heap.size _ 3 rfl (O3.out.alloc _) rfl (Blk.made _ _ _) (by omega) (by simp; omega) ?_; intro g6 cap6 w6 ho6 hg6 hor6 hlt6; have HO6 := Lib.hid ho6; have HG6 := Lib.hid hg6; clear ho6 hg6 hor6 hlt6)
                go_roundg (gk - 1)
                case rel =>
                  have hb := (Below.refl wr.heap.size wr).alloc (Nat.le_refl _) (.cells #[.int .i64 (0)] 3)
                  refine ⟨j + 1, _, _, by go_num, by omega, rfl, ?_, (H3.out.below hb).int (own_below O3.out hb) h5 HG6.out, (S3.out.trans (StStep.of_below hb hw3)).int (own_below O3.out hb) (Nat.le_refl _) h5 HG6.out⟩
                  have := HO6.out
                  rw [List.append_assoc, ← List.replicate_succ'] at this
                  exact this
                case measure => omega
              · have hjI : ¬ (j : Int) < (11+x) := by omega
                obtain rfl : j = (11+x) := by omega
                go_wp2
                go_roundg f
                case measure => omega
                case rel =>
                  refine ⟨acc ++ List.replicate ((11+x)) (0), p4, e4, A3, c3, by simp, by simpa using O3.out, H3.out, S3.out, by simp; omega, ?_⟩
                  (exact tailend TF.out hk (by simp; omega))
        have d16 : ((v : Int) == 16) = false := by simp; omega
        have d17 : ((v : Int) == 17) = false := by simp; omega
        have d18 : ((v : Int) == 18) = false := by simp; omega
        rw [if_neg h16, if_neg h17, if_neg h18] at T2
        simp only [Res.bind] at T2
        have TF := Lib.hid (show (e2 = 4 ∧ T = .bad false) ∨ (e2 = 0 ∧ (T = if n < acc.length + 1 then .bad false else lensR (bitsOf bs) cs n f (acc ++ List.replicate 1 (v : Int)) p2) ∧ p1 < p2) by
          rcases T2.out with ⟨a, b⟩ | ⟨a, b⟩
          · exact .inl ⟨a, b⟩
          · exact .inr ⟨a, b, P2.out a⟩)
        clear T2 P2
        have H4 := H2
        have S4 := S2
        have O4 := O2
        clear H2 S2 O2
        have hbig : ¬ n < acc.length + 1 := by omega
        have hbigI : ¬ (n : Int) < (acc.length : Int) + 1 := by omega
        go_wp2
        rw [if_neg hbig] at TF
        have H3 := H4
        have S3 := S4
        have O3 := O4
        clear H4 S4 O4
        go_loopg [7, 60] (1) (LenI base s r bs out p2 most e2 acc (v:Int) 1 w)
        case atStart => exact ⟨0, _, _, rfl, by omega, rfl, by simpa using O3.out, H3.out, S3.out⟩
        case round =>
          clear O3 H3 S3
          obtain ⟨j, A3, c3, rfl, hj, rfl, ho3, hs3, st3⟩ := hrel
          have O3 := Lib.hid ho3
          have H3 := Lib.hid hs3
          have S3 := Lib.hid st3
          have hw3 := hs3.2.2.2.2.1
          have hw4 := st3.size
          clear ho3 hs3 st3
          by_cases hjl : j < 1
          · have hjI : (j : Int) < 1 := by omega
            go_wp2_with (refine app_int rfl (.tmp 62) (.tmp 64) rfl w.heap.size _ (acc.length + j) _ wr.heap.size _ 3 rfl (O3.out.alloc _) rfl (Blk.made _ _ _) (by omega) (by simp; omega) ?_; intro g6 cap6 w6 ho6 hg6 hor6 hlt6; have HO6 := Lib.hid ho6; have HG6 := Lib.hid hg6; clear ho6 hg6 hor6 hlt6)
            go_roundg (gk - 1)
            case rel =>
              have hb := (Below.refl wr.heap.size wr).alloc (Nat.le_refl _) (.cells #[.int .i64 ((v:Int))] 3)
              refine ⟨j + 1, _, _, by go_num, by omega, rfl, ?_, (H3.out.below hb).int (own_below O3.out hb) h5 HG6.out, (S3.out.trans (StStep.of_below hb hw3)).int (own_below O3.out hb) (Nat.le_refl _) h5 HG6.out⟩
              have := HO6.out
              rw [List.append_assoc, ← List.replicate_succ'] at this
              exact this
            case measure => omega
          · have hjI : ¬ (j : Int) < 1 := by omega
            obtain rfl : j = 1 := by omega
            go_wp2
            go_roundg f
            case measure => omega
            case rel =>
              refine ⟨acc ++ List.replicate (1) ((v:Int)), p2, e2, A3, c3, by simp, by simpa using O3.out, H3.out, S3.out, by simp; omega, ?_⟩
              (exact tailend TF.out hk (by simp; omega))
      · have hltI : ¬ (acc.length : Int) < n := by omega
        go_wp2
        go_ret
        refine ⟨_, _, _, p1, 0, rfl, own_cap HO.out, HS.out, HSt.out, ?_⟩
        obtain ⟨f, rfl⟩ : ∃ f, gk = f + 1 := ⟨gk - 1, by omega⟩
        have h1 := HTk.out
        simp only [lensR] at h1
        rw [if_pos (by omega)] at h1
        rw [h1]
        have e : acc.length = n := by omega
        exact ⟨rfl, rfl, e, by rw [← e]; exact RdI.of_own HO.out⟩
    · have HTb := Lib.hid hT
      clear hT HT
      by_cases hlt : acc.length < n
      · have hltI : (acc.length : Int) < n := by omega
        go_wp2
        go_ret
        exact ⟨_, _, _, p1, 4, rfl, own_cap HO.out, HS.out, HSt.out, by rw [HTb.out]; rfl⟩
      · have hltI : ¬ (acc.length : Int) < n := by omega
        go_wp2
        go_ret
        exact ⟨_, _, _, p1, 4, rfl, own_cap HO.out, HS.out, HSt.out, by rw [HTb.out]; rfl⟩
end Go.Proofs.YtlhaehefhhcgaaaDoor
namespace Go.Proofs.YtlhaehefhhcgaaaDoor
open Go.RowKit
set_option linter.unusedVariables false

theorem shortsR_bad {bt : List Int} {p i : Nat} {b : Bool} (h : shortsR bt i p = .bad b) : ∀ d, shortsR bt (i + d) p = .bad b
  | 0 => h
  | d + 1 => by rw [← Nat.add_assoc, shortsR, shortsR_bad h d]; rfl
theorem ord_bd : ∀ i, i < 19 → 0 ≤ orderL.getD i 0 ∧ orderL.getD i 0 < 19 := by decide

theorem StrOk.c3 {w : World} {base s r p : Nat} {bs out : List Int} {most e : Int} (h : StrOk w base s r bs p out most e) : w.cell? ⟨s, 3, none⟩ = some (.int .i64 e) := by
  obtain ⟨_, _, _, _, _, _, vv, q7, _, _⟩ := h
  exact q7.cell (i := 3) (v := .int .i64 e) rfl
def dynG (bt : List Int) (most : Nat) (out : List Int) (n m : Nat) (sh : List Int) (p : Nat) : Res (List Int) :=
  if countsOk sh = true then
    (lensR bt sh (257 + n + (1 + m)) (bt.length + 1) [] p).bind fun all p =>
      if all.getD 256 0 = 0 then .bad false else codedR bt most (all.take (257 + n)) (all.drop (257 + n)) out p
  else .bad false
theorem slice_order (x : Nat) (hx : x < 16) (W : World) : (Instr.sliceAt 113 (.pointer (some ⟨0, 0, none⟩)) none (some (.int .i64 (4 + (x : Int)))) none).run Tryd.prog W = .ok (.slice (some ⟨0, 0, none⟩) (4 + x) 19) W := by
  have hu : Tryd.prog.underlying 113 = some (.array (Tryd.prog.arrayLen 113) (Tryd.prog.elem 113)) := by kernel_rfl
  have hl : Tryd.prog.arrayLen 113 = 19 := by kernel_rfl
  have he : Tryd.prog.elem 113 = 3 := by kernel_rfl
  rw [run_sliceAt_array_h W _ _ hu _ _ (by omega) (by rw [hl]; omega), hl, he]
  have hs : (sizeOf 3).run Tryd.prog W = .ok 1 W := by kernel_rfl
  rw [hs]
  simp only [Result.andThen_ok, slicedAt]
  have : (4 + (x : Int)).toNat = 4 + x := by omega
  rw [this]
  rfl
def ShI (base s r : Nat) (bs out : List Int) (p0 most cc g cap : Nat) (T : Res (List Int)) (G : List Int → Nat → Res (List Int)) (w : World) (k : Nat) (iv : Value) (wr : World) : Prop :=
  ∃ i p e sh, iv = .int .i64 ((i : Nat) : Int) ∧ i + k = cc ∧ wr.ownsRow w.heap.size 3 1 (.slice (some ⟨g, 0, none⟩) 19 cap) 19 (sh.map (Value.int .i64)) ∧ StrOk wr base s r bs p out (most : Int) e ∧ StStep w wr base s r ∧
    ((e = 4 ∧ T = .bad false) ∨ (e = 0 ∧ shortsR (bitsOf bs) i p0 = .ok sh p ∧ T = (shortsR (bitsOf bs) cc p0).bind G))

set_option maxHeartbeats 1600000 in
set_option maxRecDepth 100000 in
theorem dynamic_any (base s r : Nat) (bs : List Int) (p : Nat) (out : List Int) (most : Nat) (w : World) (h : StrOk w base s r bs p out (most : Int) 0)
    (ht : TabsOk w) (hs5 : 5 ≤ s) (hr5 : 5 ≤ r) (hB : Bytes bs) (hl : bs.length ≤ 1000000000) (hm : most ≤ 65536) (ho : out.length ≤ most) :
    Calls Tryd.prog 31 #[.pointer (some ⟨s, 0, none⟩)] w (VoidPost base s r bs most (dynamicR (bitsOf bs) most out p) w) := by
  have H := Lib.hid h
  have HTb := Lib.hid ht
  have HBy := Lib.hid hB
  obtain ⟨_, h2, h3, h4, h5, h6, _⟩ := h
  have hbase : 5 ≤ base := by omega
  clear ht hB
  obtain ⟨T, hT⟩ : ∃ T, T = dynamicR (bitsOf bs) most out p := ⟨_, rfl⟩
  rw [← hT]
  have HT := Lib.hid (show T = (numR (bitsOf bs) p 5).bind fun n p => (numR (bitsOf bs) p 5).bind fun m p => (numR (bitsOf bs) p 4).bind fun c p =>
    if 286 < 257 + n ∨ 30 < 1 + m then .bad false else (shortsR (bitsOf bs) (4 + c) p).bind (dynG (bitsOf bs) most out n m) from hT)
  clear hT
  go_enter Tryd.func31, Tryd.ntmps31
  go_wp2_with fail
  refine (number_any base s r bs p out (most : Int) 0 5 w H.out HBy.out hl (by omega)).mono ?_
  rintro ev w1 ⟨x1, p1, e1, rfl, hx1, hs1, st1, tk1, _⟩
  have H1 := Lib.hid hs1
  have S1 := Lib.hid st1
  have T1 := Lib.hid (took_next2 (fun b => numR_bad) HT.out tk1)
  have hx1' : x1 < 32 := hx1
  clear hs1 st1 tk1 HT hx1
  go_wp2_with fail
  refine (number_any base s r bs p1 out (most : Int) e1 5 w1 H1.out HBy.out hl (by omega)).mono ?_
  rintro ev w2 ⟨x2, p2, e2, rfl, hx2, hs2, st2, tk2, _⟩
  have H2 := Lib.hid hs2
  have S2 := Lib.hid (S1.out.trans st2)
  have T2 := Lib.hid (took_next (fun b => numR_bad) T1.out tk2)
  have hx2' : x2 < 32 := hx2
  clear hs2 st2 tk2 T1 hx2 H1 S1
  go_wp2_with fail
  refine (number_any base s r bs p2 out (most : Int) e2 4 w2 H2.out HBy.out hl (by omega)).mono ?_
  rintro ev w3 ⟨x3, p3, e3, rfl, hx3, hs3, st3, tk3, _⟩
  have H3 := Lib.hid hs3
  have S3 := Lib.hid (S2.out.trans st3)
  have T3 := Lib.hid (took_next (fun b => numR_bad) T2.out tk3)
  have hx3' : x3 < 16 := hx3
  clear hs3 st3 tk3 T2 hx3 H2 S2
  have hsl := slice_order x3 hx3'
  by_cases hbig : 286 < 257 + x1 ∨ 30 < 1 + x2
  · have HE := Lib.hid (show (if e3 = 0 then (4 : Int) else e3) = 4 ∧ T = .bad false by
      rcases T3.out with ⟨a, b⟩ | ⟨a, b⟩
      · rw [a]; exact ⟨rfl, b⟩
      · rw [if_pos hbig] at b
        rw [if_pos a]; exact ⟨rfl, b⟩)
    have T4 := Lib.hid (show ((4 : Int) = 4 ∧ T = .bad false) ∨ ((4 : Int) = 0 ∧ T = (shortsR (bitsOf bs) (4 + x3) p3).bind (dynG (bitsOf bs) most out x1 x2)) from .inl ⟨rfl, HE.out.2⟩)
    by_cases hb1 : 286 < 257 + x1
    · have hb1I : (286 : Int) < 257 + (x1 : Int) := by omega
      clear hbig
      go_wp2_with (first
        | (go_at_call 32; refine (fail_any base s r bs p3 out (most : Int) e3 4 w3 H3.out).mono ?_; rintro ev w4 ⟨rfl, h5', s5, _⟩; have H4 := Lib.hid h5'; have S4 := Lib.hid (S3.out.trans s5); clear h5' s5)
        | (refine mk_ints rfl (.const (.int .i64 19)) (.const (.int .i64 19)) rfl w.heap.size 19 _ _ rfl rfl rfl rfl (by omega) S4.out.size ?_; intro w9 ho9 hg9; have O9 := Lib.hid ho9; have G9 := Lib.hid hg9; clear ho9 hg9))
      rw [HE.out.1] at H4
      clear H3 S3 T3 HE
      have B9 := Lib.hid (bl_n (Below.refl _ _) G9.out)
      have H9 := Lib.hid (H4.out.below B9.out)
      have S9 := Lib.hid (S4.out.trans (StStep.of_below B9.out H4.out.2.2.2.2.1))
      clear H4 S4 G9 B9 hsl
      go_loopg [31] (4 + x3) (ShI base s r bs out p3 most (4 + x3) w4.heap.size 19 T (dynG (bitsOf bs) most out x1 x2) w)
      case atStart =>
        refine ⟨0, p3, 4, List.replicate 19 0, rfl, by omega, by simpa using O9.out, H9.out, S9.out, ?_⟩
        rcases T4.out with h | ⟨a, b⟩
        · first | exact .inl h | exact .inl ⟨rfl, h.2⟩
        · exact .inr ⟨a, rfl, b⟩
      case round =>
        clear O9 H9 S9 T4
        obtain ⟨i, p5, e5, sh, rfl, hi, ho5, hs5', st5, hT5⟩ := hrel
        have hshl : sh.length = 19 := by simpa using ho5.1
        have O5 := Lib.hid ho5
        have H5 := Lib.hid hs5'
        have S5 := Lib.hid st5
        have T5 := Lib.hid hT5
        have TB5 := Lib.hid (HTb.out.step st5 hs5 hr5 hbase)
        have h55 := hs5'.2.2.2.2.1
        have h5s := st5.size
        clear ho5 hs5' st5 hT5
        by_cases hlt : i < 4 + x3
        · have hltI : (i : Int) < 4 + (x3 : Int) := by omega
          have cx := TB5.out.2.2.2.2.1 i (show i < 19 by omega)
          have hob := ord_bd i (by omega)
          obtain ⟨o, hoE⟩ : ∃ o : Nat, orderL.getD i 0 = (o : Int) := ⟨(orderL.getD i 0).toNat, by omega⟩
          rw [hoE] at cx hob
          have ho19 : o < 19 := by omega
          have hoI : (o : Int) < 19 := by omega
          have HOE := Lib.hid hoE
          clear hoE hob
          go_wp2_with fail
          refine (number_any base s r bs p5 out (most : Int) e5 3 wr H5.out HBy.out hl (by omega)).mono ?_
          rintro ev w6 ⟨x, p6, e6, rfl, hx, hs6, st6, tk6, _⟩
          have O6 := Lib.hid (H5.out.row st6 O5.out)
          have H6 := Lib.hid hs6
          have S6 := Lib.hid (S5.out.trans st6)
          have T6 := Lib.hid tk6
          have q1 := O6.out.cellAt o (by omega)
          have q2 := O6.out.frozenAt o
          rw [List.getElem?_map, List.getElem?_eq_getElem (by omega)] at q1
          simp only [Option.map_some] at q1
          clear hs6 st6 tk6 H5 O5 S5 TB5 cx
          go_wp2
          go_roundg (gk - 1)
          case measure => omega
          case rel =>
            have hst := O6.out.stored o (.int .i64 (x : Int))
            refine ⟨i + 1, p6, e6, sh.set o (x : Int), by go_num, by omega, ?_, H6.out.int O6.out h5 hst.2, S6.out.int O6.out (Nat.le_refl _) h5 hst.2, ?_⟩
            · rw [List.map_set]; exact hst.1
            · have h1 := T6.out
              have ho2 : (orderL.getD i 0).toNat = o := by rw [HOE.out]; rfl
              rcases T5.out with ⟨a, b⟩ | ⟨a, b, c⟩
              · left
                refine ⟨?_, b⟩
                rcases took_or h1 with ⟨_, h⟩ | ⟨_, _, _, h⟩
                · rw [h, a]
                · rw [h, a]; rfl
              · subst a
                rcases took_or h1 with ⟨k, h⟩ | ⟨b', k, _, h⟩
                · exact .inr ⟨h, by rw [shortsR, b]; simp only [Res.bind]; rw [k]; simp only [ho2], c⟩
                · obtain rfl := numR_bad k
                  left
                  refine ⟨h, ?_⟩
                  have hbad : shortsR (bitsOf bs) (i + 1) p3 = .bad false := by rw [shortsR, b]; simp only [Res.bind]; rw [k]
                  have := shortsR_bad hbad (4 + x3 - (i + 1))
                  rw [show i + 1 + (4 + x3 - (i + 1)) = 4 + x3 by omega] at this
                  rw [c, this]; rfl
        · have hltI : ¬ (i : Int) < 4 + (x3 : Int) := by omega
          obtain rfl : i = 4 + x3 := by omega
          have T6 := Lib.hid (show (e5 = 4 ∧ T = .bad false) ∨ (e5 = 0 ∧ T = dynG (bitsOf bs) most out x1 x2 sh p5) by
            rcases T5.out with h | ⟨a, b, c⟩
            · exact .inl h
            · exact .inr ⟨a, by rw [c, b]; rfl⟩)
          clear T5
          go_wp2_with fail
          refine (new_any sh _ 19 19 wr (RdI.of_own O5.out) (by omega)).mono ?_
          rintro ev w6 ⟨hx, hb6⟩
          have H6 := Lib.hid (H5.out.below hb6)
          have S6 := Lib.hid (S5.out.trans (StStep.of_below hb6 h55))
          have TB6 := Lib.hid (TB5.out.below hb6)
          have HX := Lib.hid hx
          clear hx hb6 H5 S5 TB5 O5
          rcases HX.out with ⟨hx0, rfl⟩ | ⟨hx0, gd, rfl, hgd, hdx⟩
          · have HE := Lib.hid (show (if e5 = 0 then (4 : Int) else e5) = 4 ∧ T = .bad false by
              rcases T6.out with ⟨a, b⟩ | ⟨a, b⟩
              · rw [a]; exact ⟨rfl, b⟩
              · rw [dynG, if_neg (by rw [hx0]; simp)] at b
                rw [if_pos a]; exact ⟨rfl, b⟩)
            clear HX T6
            go_wp2_with fail
            refine (fail_any base s r bs p5 out (most : Int) e5 4 w6 H6.out).mono ?_
            rintro ev w7 ⟨rfl, h7', s7, _⟩
            rw [HE.out.1] at h7'
            have H7 := Lib.hid h7'
            have S7 := Lib.hid (S6.out.trans s7)
            obtain ⟨_, _, _, _, _, _, vv, q7, _, _⟩ := h7'
            have c3 := q7.cell (i := 3) (v := .int .i64 4) rfl
            clear s7 q7
            go_wp2
            go_end0
            exact ⟨p5, out, 4, rfl, H7.out, S7.out, ho, by rw [HE.out.2]; rfl⟩
          · have DX := Lib.hid hdx
            clear HX hdx
            obtain ⟨_, p5l, _, _, h56, _, vv, q7, _, _⟩ := H6.out
            have c3 := q7.cell (i := 3) (v := .int .i64 e5) rfl
            clear q7
            rcases T6.out with ⟨rfl, hTb⟩ | ⟨rfl, hTk⟩
            · have HTb' := Lib.hid hTb
              clear hTb T6
              go_wp2
              go_end0
              exact ⟨p5, out, 4, rfl, H6.out, S6.out, ho, by rw [HTb'.out]; rfl⟩
            ·
              rw [dynG, if_pos hx0, bitsOf_len] at hTk
              have HTk := Lib.hid hTk
              clear hTk T6
              have hnm : (257 + x1 + (1 + x2) : Nat) ≤ 1000 := by omega
              go_wp2_with fail
              rw [show (257 + (x1 : Int) + (1 + (x2 : Int))) = ((257 + x1 + (1 + x2) : Nat) : Int) by omega]
              refine (ilens_any base s r gd bs sh p5 out most (257 + x1 + (1 + x2)) w6 H6.out DX.out hx0 HBy.out hl hnm).mono ?_
              rintro ev w7 ⟨A7, m7, c7, p7, e7, rfl, hc7, hs7, st7, ag7⟩
              have H7 := Lib.hid hs7
              have S7 := Lib.hid (S6.out.trans st7)
              have TB7 := Lib.hid (TB6.out.step st7 hs5 hr5 hbase)
              have AG := Lib.hid ag7
              obtain ⟨_, p7l, _, _, h57, _, vv, q7, _, _⟩ := hs7
              have c3' := q7.cell (i := 3) (v := .int .i64 e7) rfl
              clear q7 st7 ag7 H6 S6 TB6 DX c3
              rcases hlr : lensR (bitsOf bs) sh (257 + x1 + (1 + x2)) (8 * bs.length + 1) [] p5 with ⟨all, q⟩ | b
              · rw [hlr] at AG HTk
                clear hlr
                obtain ⟨he7, hpq, hm7, hrd⟩ := AG.out
                subst he7 hpq hm7
                simp only [Res.bind] at HTk
                clear AG
                obtain ⟨ba, offa, rfl, hblt, hcells⟩ := hrd.2 (by omega)
                have HRd := Lib.hid hrd
                have ca := hcells 256 (by omega)
                have hal : all.length = 257 + x1 + (1 + x2) := HRd.out.1
                have HAl := Lib.hid hal
                clear hcells hrd hal
                by_cases ha0 : all.getD 256 0 = 0
                · rw [ha0] at ca
                  rw [if_pos ha0] at HTk
                  clear ha0
                  go_wp2_with (go_at_call 32; refine (fail_any base s r bs p7 out (most : Int) 0 4 w7 H7.out).mono ?_; rintro ev w8 ⟨rfl, h5', s5, _⟩; have H8 := Lib.hid h5'; have S8 := Lib.hid (S7.out.trans s5); have c38 := h5'.c3; clear h5' s5)
                  go_end0
                  exact ⟨p7, out, 4, rfl, H8.out, S8.out, ho, by rw [HTk.out]; rfl⟩
                · rw [if_neg ha0] at HTk
                  generalize all.getD 256 0 = a0 at *
                  have ha0' : (a0 == 0) = false := by simpa using ha0
                  clear ha0
                  have f1 : (0 : Int) ≤ 257 + (x1 : Int) := by omega
                  have f2 : (257 : Int) + (x1 : Int) ≤ c7 := by omega
                  have f3 : (257 : Int) + (x1 : Int) ≤ ((257 + x1 + (1 + x2) : Nat) : Int) := by omega
                  have f4 : 257 + x1 ≠ c7 := by omega
                  go_wp2
                  refine wp_region_qs (fun _ _ => True) [(0, some 0), (1, some 1), (2, some 1), (3, some 0), (4, some 1), (5, some 1), (6, some 0), (7, none)] (by kernel_rfl) (by kernel_rfl) (by kernel_rfl) (by kernel_rfl) (by kernel_rfl) (fun _ _ _ _ _ h => h) trivial ?_
                  simp only [List.map_cons, List.map_nil, List.getD_cons_succ, List.getD_cons_zero]
                  (repeat (first | (refine qs_now (v := ?_) (by rfl) ?_ ?_; rotate_left 1; (· (intro w' hS; go_simp; (try (simp only [↓IntWalk.iteOmega]; go_simp)); (try simp (disch := omega) only [IntWalk.i64_in]); try with_reducible rfl)); simp only [Act.put, List.setIfInBounds_toArray, List.set_cons_zero, List.set_cons_succ]) | (refine qs_run (v := ?_) (by rfl) ?_ ?_; rotate_left 1; (· (intro j w' hS; go_simp; (try (simp only [↓IntWalk.iteOmega]; go_simp)); (try simp (disch := omega) only [IntWalk.i64_in]); try with_reducible rfl)); simp only [Act.put, List.setIfInBounds_toArray, List.set_cons_zero, List.set_cons_succ]) | (refine qs_mid (v := ?_) (by rfl) ?_ ?_; rotate_left 1; (· (intro j w' hj1 hj2 hS; go_simp; (try (simp only [↓IntWalk.iteOmega]; go_simp)); (try simp (disch := omega) only [IntWalk.i64_in]); try with_reducible rfl)); simp only [Act.put, List.setIfInBounds_toArray, List.set_cons_zero, List.set_cons_succ]) | (refine qs_skip (by rfl) ?_; simp only [Act.put, List.setIfInBounds_toArray, List.set_cons_zero, List.set_cons_succ])))
                  refine qs_act ?_
                  go_wp2_with fail
                  have hdr := (Below.refl w7.heap.size w7).drew
                  have hr1 := rd_take (HRd.out.below hdr) (257 + x1) (by omega)
                  have hr2 := rd_from (HRd.out.below hdr) (257 + x1) (by omega)
                  refine (coded_any base s r bs (all.take (257 + x1)) (all.drop (257 + x1)) p7 out most _ _ _ _ c7 (c7 - (257 + x1)) w7.drew (H7.out.below hdr) hr1 hr2 (by omega) (by omega) (TB7.out.below hdr) hs5 hr5 HBy.out hl hm ho).mono ?_
                  rintro ev w8 ⟨p8, o8, e8, rfl, hs8, st8, ho8, ag8⟩
                  rw [← HTk.out] at ag8
                  have H8 := Lib.hid hs8
                  have S8 := Lib.hid (S7.out.trans ((StStep.of_below hdr h57).trans st8))
                  have A8 := Lib.hid ag8
                  clear hs8 st8 ag8 hr1 hr2
                  go_wp2
                  refine ⟨trivial, ?_⟩
                  refine qs_nil ?_
                  go_wp2
                  go_end0
                  exact ⟨p8, o8, e8, rfl, H8.out, S8.out, ho8, A8.out⟩
              · rw [hlr] at AG HTk
                clear hlr
                have he7 : e7 = errOf b := AG.out
                have hne := errOf_ne b
                have HE7 := Lib.hid he7
                have hne7 : (e7 == 0) = false := by rw [he7]; simpa using hne
                clear he7 hne AG
                go_wp2
                go_end0
                exact ⟨p7, out, e7, rfl, H7.out, S7.out, ho, by rw [HTk.out]; exact HE7.out⟩
    · have hb1I : ¬ (286 : Int) < 257 + (x1 : Int) := by omega
      have hb1D : decide ((286 : Int) < 257 + (x1 : Int)) = false := by simpa using hb1I
      have hb2I : (30 : Int) < 1 + (x2 : Int) := by omega
      clear hbig
      go_wp2_with (first
        | (go_at_call 32; refine (fail_any base s r bs p3 out (most : Int) e3 4 w3 H3.out).mono ?_; rintro ev w4 ⟨rfl, h5', s5, _⟩; have H4 := Lib.hid h5'; have S4 := Lib.hid (S3.out.trans s5); clear h5' s5)
        | (refine mk_ints rfl (.const (.int .i64 19)) (.const (.int .i64 19)) rfl w.heap.size 19 _ _ rfl rfl rfl rfl (by omega) S4.out.size ?_; intro w9 ho9 hg9; have O9 := Lib.hid ho9; have G9 := Lib.hid hg9; clear ho9 hg9))
      rw [HE.out.1] at H4
      clear H3 S3 T3 HE
      have B9 := Lib.hid (bl_n (Below.refl _ _) G9.out)
      have H9 := Lib.hid (H4.out.below B9.out)
      have S9 := Lib.hid (S4.out.trans (StStep.of_below B9.out H4.out.2.2.2.2.1))
      clear H4 S4 G9 B9 hsl
      go_loopg [31] (4 + x3) (ShI base s r bs out p3 most (4 + x3) w4.heap.size 19 T (dynG (bitsOf bs) most out x1 x2) w)
      case atStart =>
        refine ⟨0, p3, 4, List.replicate 19 0, rfl, by omega, by simpa using O9.out, H9.out, S9.out, ?_⟩
        rcases T4.out with h | ⟨a, b⟩
        · first | exact .inl h | exact .inl ⟨rfl, h.2⟩
        · exact .inr ⟨a, rfl, b⟩
      case round =>
        clear O9 H9 S9 T4
        obtain ⟨i, p5, e5, sh, rfl, hi, ho5, hs5', st5, hT5⟩ := hrel
        have hshl : sh.length = 19 := by simpa using ho5.1
        have O5 := Lib.hid ho5
        have H5 := Lib.hid hs5'
        have S5 := Lib.hid st5
        have T5 := Lib.hid hT5
        have TB5 := Lib.hid (HTb.out.step st5 hs5 hr5 hbase)
        have h55 := hs5'.2.2.2.2.1
        have h5s := st5.size
        clear ho5 hs5' st5 hT5
        by_cases hlt : i < 4 + x3
        · have hltI : (i : Int) < 4 + (x3 : Int) := by omega
          have cx := TB5.out.2.2.2.2.1 i (show i < 19 by omega)
          have hob := ord_bd i (by omega)
          obtain ⟨o, hoE⟩ : ∃ o : Nat, orderL.getD i 0 = (o : Int) := ⟨(orderL.getD i 0).toNat, by omega⟩
          rw [hoE] at cx hob
          have ho19 : o < 19 := by omega
          have hoI : (o : Int) < 19 := by omega
          have HOE := Lib.hid hoE
          clear hoE hob
          go_wp2_with fail
          refine (number_any base s r bs p5 out (most : Int) e5 3 wr H5.out HBy.out hl (by omega)).mono ?_
          rintro ev w6 ⟨x, p6, e6, rfl, hx, hs6, st6, tk6, _⟩
          have O6 := Lib.hid (H5.out.row st6 O5.out)
          have H6 := Lib.hid hs6
          have S6 := Lib.hid (S5.out.trans st6)
          have T6 := Lib.hid tk6
          have q1 := O6.out.cellAt o (by omega)
          have q2 := O6.out.frozenAt o
          rw [List.getElem?_map, List.getElem?_eq_getElem (by omega)] at q1
          simp only [Option.map_some] at q1
          clear hs6 st6 tk6 H5 O5 S5 TB5 cx
          go_wp2
          go_roundg (gk - 1)
          case measure => omega
          case rel =>
            have hst := O6.out.stored o (.int .i64 (x : Int))
            refine ⟨i + 1, p6, e6, sh.set o (x : Int), by go_num, by omega, ?_, H6.out.int O6.out h5 hst.2, S6.out.int O6.out (Nat.le_refl _) h5 hst.2, ?_⟩
            · rw [List.map_set]; exact hst.1
            · have h1 := T6.out
              have ho2 : (orderL.getD i 0).toNat = o := by rw [HOE.out]; rfl
              rcases T5.out with ⟨a, b⟩ | ⟨a, b, c⟩
              · left
                refine ⟨?_, b⟩
                rcases took_or h1 with ⟨_, h⟩ | ⟨_, _, _, h⟩
                · rw [h, a]
                · rw [h, a]; rfl
              · subst a
                rcases took_or h1 with ⟨k, h⟩ | ⟨b', k, _, h⟩
                · exact .inr ⟨h, by rw [shortsR, b]; simp only [Res.bind]; rw [k]; simp only [ho2], c⟩
                · obtain rfl := numR_bad k
                  left
                  refine ⟨h, ?_⟩
                  have hbad : shortsR (bitsOf bs) (i + 1) p3 = .bad false := by rw [shortsR, b]; simp only [Res.bind]; rw [k]
                  have := shortsR_bad hbad (4 + x3 - (i + 1))
                  rw [show i + 1 + (4 + x3 - (i + 1)) = 4 + x3 by omega] at this
                  rw [c, this]; rfl
        · have hltI : ¬ (i : Int) < 4 + (x3 : Int) := by omega
          obtain rfl : i = 4 + x3 := by omega
          have T6 := Lib.hid (show (e5 = 4 ∧ T = .bad false) ∨ (e5 = 0 ∧ T = dynG (bitsOf bs) most out x1 x2 sh p5) by
            rcases T5.out with h | ⟨a, b, c⟩
            · exact .inl h
            · exact .inr ⟨a, by rw [c, b]; rfl⟩)
          clear T5
          go_wp2_with fail
          refine (new_any sh _ 19 19 wr (RdI.of_own O5.out) (by omega)).mono ?_
          rintro ev w6 ⟨hx, hb6⟩
          have H6 := Lib.hid (H5.out.below hb6)
          have S6 := Lib.hid (S5.out.trans (StStep.of_below hb6 h55))
          have TB6 := Lib.hid (TB5.out.below hb6)
          have HX := Lib.hid hx
          clear hx hb6 H5 S5 TB5 O5
          rcases HX.out with ⟨hx0, rfl⟩ | ⟨hx0, gd, rfl, hgd, hdx⟩
          · have HE := Lib.hid (show (if e5 = 0 then (4 : Int) else e5) = 4 ∧ T = .bad false by
              rcases T6.out with ⟨a, b⟩ | ⟨a, b⟩
              · rw [a]; exact ⟨rfl, b⟩
              · rw [dynG, if_neg (by rw [hx0]; simp)] at b
                rw [if_pos a]; exact ⟨rfl, b⟩)
            clear HX T6
            go_wp2_with fail
            refine (fail_any base s r bs p5 out (most : Int) e5 4 w6 H6.out).mono ?_
            rintro ev w7 ⟨rfl, h7', s7, _⟩
            rw [HE.out.1] at h7'
            have H7 := Lib.hid h7'
            have S7 := Lib.hid (S6.out.trans s7)
            obtain ⟨_, _, _, _, _, _, vv, q7, _, _⟩ := h7'
            have c3 := q7.cell (i := 3) (v := .int .i64 4) rfl
            clear s7 q7
            go_wp2
            go_end0
            exact ⟨p5, out, 4, rfl, H7.out, S7.out, ho, by rw [HE.out.2]; rfl⟩
          · have DX := Lib.hid hdx
            clear HX hdx
            obtain ⟨_, p5l, _, _, h56, _, vv, q7, _, _⟩ := H6.out
            have c3 := q7.cell (i := 3) (v := .int .i64 e5) rfl
            clear q7
            rcases T6.out with ⟨rfl, hTb⟩ | ⟨rfl, hTk⟩
            · have HTb' := Lib.hid hTb
              clear hTb T6
              go_wp2
              go_end0
              exact ⟨p5, out, 4, rfl, H6.out, S6.out, ho, by rw [HTb'.out]; rfl⟩
            ·
              rw [dynG, if_pos hx0, bitsOf_len] at hTk
              have HTk := Lib.hid hTk
              clear hTk T6
              have hnm : (257 + x1 + (1 + x2) : Nat) ≤ 1000 := by omega
              go_wp2_with fail
              rw [show (257 + (x1 : Int) + (1 + (x2 : Int))) = ((257 + x1 + (1 + x2) : Nat) : Int) by omega]
              refine (ilens_any base s r gd bs sh p5 out most (257 + x1 + (1 + x2)) w6 H6.out DX.out hx0 HBy.out hl hnm).mono ?_
              rintro ev w7 ⟨A7, m7, c7, p7, e7, rfl, hc7, hs7, st7, ag7⟩
              have H7 := Lib.hid hs7
              have S7 := Lib.hid (S6.out.trans st7)
              have TB7 := Lib.hid (TB6.out.step st7 hs5 hr5 hbase)
              have AG := Lib.hid ag7
              obtain ⟨_, p7l, _, _, h57, _, vv, q7, _, _⟩ := hs7
              have c3' := q7.cell (i := 3) (v := .int .i64 e7) rfl
              clear q7 st7 ag7 H6 S6 TB6 DX c3
              rcases hlr : lensR (bitsOf bs) sh (257 + x1 + (1 + x2)) (8 * bs.length + 1) [] p5 with ⟨all, q⟩ | b
              · rw [hlr] at AG HTk
                clear hlr
                obtain ⟨he7, hpq, hm7, hrd⟩ := AG.out
                subst he7 hpq hm7
                simp only [Res.bind] at HTk
                clear AG
                obtain ⟨ba, offa, rfl, hblt, hcells⟩ := hrd.2 (by omega)
                have HRd := Lib.hid hrd
                have ca := hcells 256 (by omega)
                have hal : all.length = 257 + x1 + (1 + x2) := HRd.out.1
                have HAl := Lib.hid hal
                clear hcells hrd hal
                by_cases ha0 : all.getD 256 0 = 0
                · rw [ha0] at ca
                  rw [if_pos ha0] at HTk
                  clear ha0
                  go_wp2_with (go_at_call 32; refine (fail_any base s r bs p7 out (most : Int) 0 4 w7 H7.out).mono ?_; rintro ev w8 ⟨rfl, h5', s5, _⟩; have H8 := Lib.hid h5'; have S8 := Lib.hid (S7.out.trans s5); have c38 := h5'.c3; clear h5' s5)
                  go_end0
                  exact ⟨p7, out, 4, rfl, H8.out, S8.out, ho, by rw [HTk.out]; rfl⟩
                · rw [if_neg ha0] at HTk
                  generalize all.getD 256 0 = a0 at *
                  have ha0' : (a0 == 0) = false := by simpa using ha0
                  clear ha0
                  have f1 : (0 : Int) ≤ 257 + (x1 : Int) := by omega
                  have f2 : (257 : Int) + (x1 : Int) ≤ c7 := by omega
                  have f3 : (257 : Int) + (x1 : Int) ≤ ((257 + x1 + (1 + x2) : Nat) : Int) := by omega
                  have f4 : 257 + x1 ≠ c7 := by omega
                  go_wp2
                  refine wp_region_qs (fun _ _ => True) [(0, some 0), (1, some 1), (2, some 1), (3, some 0), (4, some 1), (5, some 1), (6, some 0), (7, none)] (by kernel_rfl) (by kernel_rfl) (by kernel_rfl) (by kernel_rfl) (by kernel_rfl) (fun _ _ _ _ _ h => h) trivial ?_
                  simp only [List.map_cons, List.map_nil, List.getD_cons_succ, List.getD_cons_zero]
                  (repeat (first | (refine qs_now (v := ?_) (by rfl) ?_ ?_; rotate_left 1; (· (intro w' hS; go_simp; (try (simp only [↓IntWalk.iteOmega]; go_simp)); (try simp (disch := omega) only [IntWalk.i64_in]); try with_reducible rfl)); simp only [Act.put, List.setIfInBounds_toArray, List.set_cons_zero, List.set_cons_succ]) | (refine qs_run (v := ?_) (by rfl) ?_ ?_; rotate_left 1; (· (intro j w' hS; go_simp; (try (simp only [↓IntWalk.iteOmega]; go_simp)); (try simp (disch := omega) only [IntWalk.i64_in]); try with_reducible rfl)); simp only [Act.put, List.setIfInBounds_toArray, List.set_cons_zero, List.set_cons_succ]) | (refine qs_mid (v := ?_) (by rfl) ?_ ?_; rotate_left 1; (· (intro j w' hj1 hj2 hS; go_simp; (try (simp only [↓IntWalk.iteOmega]; go_simp)); (try simp (disch := omega) only [IntWalk.i64_in]); try with_reducible rfl)); simp only [Act.put, List.setIfInBounds_toArray, List.set_cons_zero, List.set_cons_succ]) | (refine qs_skip (by rfl) ?_; simp only [Act.put, List.setIfInBounds_toArray, List.set_cons_zero, List.set_cons_succ])))
                  refine qs_act ?_
                  go_wp2_with fail
                  have hdr := (Below.refl w7.heap.size w7).drew
                  have hr1 := rd_take (HRd.out.below hdr) (257 + x1) (by omega)
                  have hr2 := rd_from (HRd.out.below hdr) (257 + x1) (by omega)
                  refine (coded_any base s r bs (all.take (257 + x1)) (all.drop (257 + x1)) p7 out most _ _ _ _ c7 (c7 - (257 + x1)) w7.drew (H7.out.below hdr) hr1 hr2 (by omega) (by omega) (TB7.out.below hdr) hs5 hr5 HBy.out hl hm ho).mono ?_
                  rintro ev w8 ⟨p8, o8, e8, rfl, hs8, st8, ho8, ag8⟩
                  rw [← HTk.out] at ag8
                  have H8 := Lib.hid hs8
                  have S8 := Lib.hid (S7.out.trans ((StStep.of_below hdr h57).trans st8))
                  have A8 := Lib.hid ag8
                  clear hs8 st8 ag8 hr1 hr2
                  go_wp2
                  refine ⟨trivial, ?_⟩
                  refine qs_nil ?_
                  go_wp2
                  go_end0
                  exact ⟨p8, o8, e8, rfl, H8.out, S8.out, ho8, A8.out⟩
              · rw [hlr] at AG HTk
                clear hlr
                have he7 : e7 = errOf b := AG.out
                have hne := errOf_ne b
                have HE7 := Lib.hid he7
                have hne7 : (e7 == 0) = false := by rw [he7]; simpa using hne
                clear he7 hne AG
                go_wp2
                go_end0
                exact ⟨p7, out, e7, rfl, H7.out, S7.out, ho, by rw [HTk.out]; exact HE7.out⟩
  · have hb1I : ¬ (286 : Int) < 257 + (x1 : Int) := by omega
    have hb1D : decide ((286 : Int) < 257 + (x1 : Int)) = false := by simpa using hb1I
    have hb2I : ¬ (30 : Int) < 1 + (x2 : Int) := by omega
    rw [if_neg hbig] at T3
    have H4 := H3
    have S4 := S3
    have T4 := T3
    clear H3 S3 T3 hbig
    go_wp2_with (first
      | (refine mk_ints rfl (.const (.int .i64 19)) (.const (.int .i64 19)) rfl w.heap.size 19 _ _ rfl rfl rfl rfl (by omega) S4.out.size ?_; intro w9 ho9 hg9; have O9 := Lib.hid ho9; have G9 := Lib.hid hg9; clear ho9 hg9))
    have B9 := Lib.hid (bl_n (Below.refl _ _) G9.out)
    have H9 := Lib.hid (H4.out.below B9.out)
    have S9 := Lib.hid (S4.out.trans (StStep.of_below B9.out H4.out.2.2.2.2.1))
    clear H4 S4 G9 B9 hsl
    go_loopg [31] (4 + x3) (ShI base s r bs out p3 most (4 + x3) w3.heap.size 19 T (dynG (bitsOf bs) most out x1 x2) w)
    case atStart =>
      refine ⟨0, p3, e3, List.replicate 19 0, rfl, by omega, by simpa using O9.out, H9.out, S9.out, ?_⟩
      rcases T4.out with h | ⟨a, b⟩
      · first | exact .inl h | exact .inl ⟨rfl, h.2⟩
      · exact .inr ⟨a, rfl, b⟩
    case round =>
      clear O9 H9 S9 T4
      obtain ⟨i, p5, e5, sh, rfl, hi, ho5, hs5', st5, hT5⟩ := hrel
      have hshl : sh.length = 19 := by simpa using ho5.1
      have O5 := Lib.hid ho5
      have H5 := Lib.hid hs5'
      have S5 := Lib.hid st5
      have T5 := Lib.hid hT5
      have TB5 := Lib.hid (HTb.out.step st5 hs5 hr5 hbase)
      have h55 := hs5'.2.2.2.2.1
      have h5s := st5.size
      clear ho5 hs5' st5 hT5
      by_cases hlt : i < 4 + x3
      · have hltI : (i : Int) < 4 + (x3 : Int) := by omega
        have cx := TB5.out.2.2.2.2.1 i (show i < 19 by omega)
        have hob := ord_bd i (by omega)
        obtain ⟨o, hoE⟩ : ∃ o : Nat, orderL.getD i 0 = (o : Int) := ⟨(orderL.getD i 0).toNat, by omega⟩
        rw [hoE] at cx hob
        have ho19 : o < 19 := by omega
        have hoI : (o : Int) < 19 := by omega
        have HOE := Lib.hid hoE
        clear hoE hob
        go_wp2_with fail
        refine (number_any base s r bs p5 out (most : Int) e5 3 wr H5.out HBy.out hl (by omega)).mono ?_
        rintro ev w6 ⟨x, p6, e6, rfl, hx, hs6, st6, tk6, _⟩
        have O6 := Lib.hid (H5.out.row st6 O5.out)
        have H6 := Lib.hid hs6
        have S6 := Lib.hid (S5.out.trans st6)
        have T6 := Lib.hid tk6
        have q1 := O6.out.cellAt o (by omega)
        have q2 := O6.out.frozenAt o
        rw [List.getElem?_map, List.getElem?_eq_getElem (by omega)] at q1
        simp only [Option.map_some] at q1
        clear hs6 st6 tk6 H5 O5 S5 TB5 cx
        go_wp2
        go_roundg (gk - 1)
        case measure => omega
        case rel =>
          have hst := O6.out.stored o (.int .i64 (x : Int))
          refine ⟨i + 1, p6, e6, sh.set o (x : Int), by go_num, by omega, ?_, H6.out.int O6.out h5 hst.2, S6.out.int O6.out (Nat.le_refl _) h5 hst.2, ?_⟩
          · rw [List.map_set]; exact hst.1
          · have h1 := T6.out
            have ho2 : (orderL.getD i 0).toNat = o := by rw [HOE.out]; rfl
            rcases T5.out with ⟨a, b⟩ | ⟨a, b, c⟩
            · left
              refine ⟨?_, b⟩
              rcases took_or h1 with ⟨_, h⟩ | ⟨_, _, _, h⟩
              · rw [h, a]
              · rw [h, a]; rfl
            · subst a
              rcases took_or h1 with ⟨k, h⟩ | ⟨b', k, _, h⟩
              · exact .inr ⟨h, by rw [shortsR, b]; simp only [Res.bind]; rw [k]; simp only [ho2], c⟩
              · obtain rfl := numR_bad k
                left
                refine ⟨h, ?_⟩
                have hbad : shortsR (bitsOf bs) (i + 1) p3 = .bad false := by rw [shortsR, b]; simp only [Res.bind]; rw [k]
                have := shortsR_bad hbad (4 + x3 - (i + 1))
                rw [show i + 1 + (4 + x3 - (i + 1)) = 4 + x3 by omega] at this
                rw [c, this]; rfl
      · have hltI : ¬ (i : Int) < 4 + (x3 : Int) := by omega
        obtain rfl : i = 4 + x3 := by omega
        have T6 := Lib.hid (show (e5 = 4 ∧ T = .bad false) ∨ (e5 = 0 ∧ T = dynG (bitsOf bs) most out x1 x2 sh p5) by
          rcases T5.out with h | ⟨a, b, c⟩
          · exact .inl h
          · exact .inr ⟨a, by rw [c, b]; rfl⟩)
        clear T5
        go_wp2_with fail
        refine (new_any sh _ 19 19 wr (RdI.of_own O5.out) (by omega)).mono ?_
        rintro ev w6 ⟨hx, hb6⟩
        have H6 := Lib.hid (H5.out.below hb6)
        have S6 := Lib.hid (S5.out.trans (StStep.of_below hb6 h55))
        have TB6 := Lib.hid (TB5.out.below hb6)
        have HX := Lib.hid hx
        clear hx hb6 H5 S5 TB5 O5
        rcases HX.out with ⟨hx0, rfl⟩ | ⟨hx0, gd, rfl, hgd, hdx⟩
        · have HE := Lib.hid (show (if e5 = 0 then (4 : Int) else e5) = 4 ∧ T = .bad false by
            rcases T6.out with ⟨a, b⟩ | ⟨a, b⟩
            · rw [a]; exact ⟨rfl, b⟩
            · rw [dynG, if_neg (by rw [hx0]; simp)] at b
              rw [if_pos a]; exact ⟨rfl, b⟩)
          clear HX T6
          go_wp2_with fail
          refine (fail_any base s r bs p5 out (most : Int) e5 4 w6 H6.out).mono ?_
          rintro ev w7 ⟨rfl, h7', s7, _⟩
          rw [HE.out.1] at h7'
          have H7 := Lib.hid h7'
          have S7 := Lib.hid (S6.out.trans s7)
          obtain ⟨_, _, _, _, _, _, vv, q7, _, _⟩ := h7'
          have c3 := q7.cell (i := 3) (v := .int .i64 4) rfl
          clear s7 q7
          go_wp2
          go_end0
          exact ⟨p5, out, 4, rfl, H7.out, S7.out, ho, by rw [HE.out.2]; rfl⟩
        · have DX := Lib.hid hdx
          clear HX hdx
          obtain ⟨_, p5l, _, _, h56, _, vv, q7, _, _⟩ := H6.out
          have c3 := q7.cell (i := 3) (v := .int .i64 e5) rfl
          clear q7
          rcases T6.out with ⟨rfl, hTb⟩ | ⟨rfl, hTk⟩
          · have HTb' := Lib.hid hTb
            clear hTb T6
            go_wp2
            go_end0
            exact ⟨p5, out, 4, rfl, H6.out, S6.out, ho, by rw [HTb'.out]; rfl⟩
          ·
            rw [dynG, if_pos hx0, bitsOf_len] at hTk
            have HTk := Lib.hid hTk
            clear hTk T6
            have hnm : (257 + x1 + (1 + x2) : Nat) ≤ 1000 := by omega
            go_wp2_with fail
            rw [show (257 + (x1 : Int) + (1 + (x2 : Int))) = ((257 + x1 + (1 + x2) : Nat) : Int) by omega]
            refine (ilens_any base s r gd bs sh p5 out most (257 + x1 + (1 + x2)) w6 H6.out DX.out hx0 HBy.out hl hnm).mono ?_
            rintro ev w7 ⟨A7, m7, c7, p7, e7, rfl, hc7, hs7, st7, ag7⟩
            have H7 := Lib.hid hs7
            have S7 := Lib.hid (S6.out.trans st7)
            have TB7 := Lib.hid (TB6.out.step st7 hs5 hr5 hbase)
            have AG := Lib.hid ag7
            obtain ⟨_, p7l, _, _, h57, _, vv, q7, _, _⟩ := hs7
            have c3' := q7.cell (i := 3) (v := .int .i64 e7) rfl
            clear q7 st7 ag7 H6 S6 TB6 DX c3
            rcases hlr : lensR (bitsOf bs) sh (257 + x1 + (1 + x2)) (8 * bs.length + 1) [] p5 with ⟨all, q⟩ | b
            · rw [hlr] at AG HTk
              clear hlr
              obtain ⟨he7, hpq, hm7, hrd⟩ := AG.out
              subst he7 hpq hm7
              simp only [Res.bind] at HTk
              clear AG
              obtain ⟨ba, offa, rfl, hblt, hcells⟩ := hrd.2 (by omega)
              have HRd := Lib.hid hrd
              have ca := hcells 256 (by omega)
              have hal : all.length = 257 + x1 + (1 + x2) := HRd.out.1
              have HAl := Lib.hid hal
              clear hcells hrd hal
              by_cases ha0 : all.getD 256 0 = 0
              · rw [ha0] at ca
                rw [if_pos ha0] at HTk
                clear ha0
                go_wp2_with (go_at_call 32; refine (fail_any base s r bs p7 out (most : Int) 0 4 w7 H7.out).mono ?_; rintro ev w8 ⟨rfl, h5', s5, _⟩; have H8 := Lib.hid h5'; have S8 := Lib.hid (S7.out.trans s5); have c38 := h5'.c3; clear h5' s5)
                go_end0
                exact ⟨p7, out, 4, rfl, H8.out, S8.out, ho, by rw [HTk.out]; rfl⟩
              · rw [if_neg ha0] at HTk
                generalize all.getD 256 0 = a0 at *
                have ha0' : (a0 == 0) = false := by simpa using ha0
                clear ha0
                have f1 : (0 : Int) ≤ 257 + (x1 : Int) := by omega
                have f2 : (257 : Int) + (x1 : Int) ≤ c7 := by omega
                have f3 : (257 : Int) + (x1 : Int) ≤ ((257 + x1 + (1 + x2) : Nat) : Int) := by omega
                have f4 : 257 + x1 ≠ c7 := by omega
                go_wp2
                refine wp_region_qs (fun _ _ => True) [(0, some 0), (1, some 1), (2, some 1), (3, some 0), (4, some 1), (5, some 1), (6, some 0), (7, none)] (by kernel_rfl) (by kernel_rfl) (by kernel_rfl) (by kernel_rfl) (by kernel_rfl) (fun _ _ _ _ _ h => h) trivial ?_
                simp only [List.map_cons, List.map_nil, List.getD_cons_succ, List.getD_cons_zero]
                (repeat (first | (refine qs_now (v := ?_) (by rfl) ?_ ?_; rotate_left 1; (· (intro w' hS; go_simp; (try (simp only [↓IntWalk.iteOmega]; go_simp)); (try simp (disch := omega) only [IntWalk.i64_in]); try with_reducible rfl)); simp only [Act.put, List.setIfInBounds_toArray, List.set_cons_zero, List.set_cons_succ]) | (refine qs_run (v := ?_) (by rfl) ?_ ?_; rotate_left 1; (· (intro j w' hS; go_simp; (try (simp only [↓IntWalk.iteOmega]; go_simp)); (try simp (disch := omega) only [IntWalk.i64_in]); try with_reducible rfl)); simp only [Act.put, List.setIfInBounds_toArray, List.set_cons_zero, List.set_cons_succ]) | (refine qs_mid (v := ?_) (by rfl) ?_ ?_; rotate_left 1; (· (intro j w' hj1 hj2 hS; go_simp; (try (simp only [↓IntWalk.iteOmega]; go_simp)); (try simp (disch := omega) only [IntWalk.i64_in]); try with_reducible rfl)); simp only [Act.put, List.setIfInBounds_toArray, List.set_cons_zero, List.set_cons_succ]) | (refine qs_skip (by rfl) ?_; simp only [Act.put, List.setIfInBounds_toArray, List.set_cons_zero, List.set_cons_succ])))
                refine qs_act ?_
                go_wp2_with fail
                have hdr := (Below.refl w7.heap.size w7).drew
                have hr1 := rd_take (HRd.out.below hdr) (257 + x1) (by omega)
                have hr2 := rd_from (HRd.out.below hdr) (257 + x1) (by omega)
                refine (coded_any base s r bs (all.take (257 + x1)) (all.drop (257 + x1)) p7 out most _ _ _ _ c7 (c7 - (257 + x1)) w7.drew (H7.out.below hdr) hr1 hr2 (by omega) (by omega) (TB7.out.below hdr) hs5 hr5 HBy.out hl hm ho).mono ?_
                rintro ev w8 ⟨p8, o8, e8, rfl, hs8, st8, ho8, ag8⟩
                rw [← HTk.out] at ag8
                have H8 := Lib.hid hs8
                have S8 := Lib.hid (S7.out.trans ((StStep.of_below hdr h57).trans st8))
                have A8 := Lib.hid ag8
                clear hs8 st8 ag8 hr1 hr2
                go_wp2
                refine ⟨trivial, ?_⟩
                refine qs_nil ?_
                go_wp2
                go_end0
                exact ⟨p8, o8, e8, rfl, H8.out, S8.out, ho8, A8.out⟩
            · rw [hlr] at AG HTk
              clear hlr
              have he7 : e7 = errOf b := AG.out
              have hne := errOf_ne b
              have HE7 := Lib.hid he7
              have hne7 : (e7 == 0) = false := by rw [he7]; simpa using hne
              clear he7 hne AG
              go_wp2
              go_end0
              exact ⟨p7, out, e7, rfl, H7.out, S7.out, ho, by rw [HTk.out]; exact HE7.out⟩
end Go.Proofs.YtlhaehefhhcgaaaDoor
namespace Go.Proofs.YtlhaehefhhcgaaaDoor
open Go.RowKit
set_option linter.unusedVariables false

def NumNo (base s r : Nat) (bs : List Int) (p : Nat) (out : List Int) (most e : Int) (w : World) (ev : Ending) (w' : World) : Prop :=
  ev = .returned (.int .i64 0) ∧ StrOk w' base s r bs p out most (if e = 0 then 4 else e) ∧ StStep w w' base s r
set_option maxHeartbeats 800000 in
theorem number_no (base s r : Nat) (bs : List Int) (p : Nat) (out : List Int) (most e : Int) (n : Nat) (w : World) (h : StrOk w base s r bs p out most e) (hB : Bytes bs) (hl : bs.length ≤ 1000000000) (hn : n ≤ 32) (hno : 8 * bs.length < p + n) :
    Calls Tryd.prog 27 #[.pointer (some ⟨s, 0, none⟩), .int .i64 (n : Int)] w (NumNo base s r bs p out most e w) := by
  have H := Lib.hid h
  obtain ⟨h1, h2, _, _, h5, h6, v, h7, h8, h9⟩ := h
  have c0 := h7.cell (i := 0) (v := .pointer (some ⟨r, 0, none⟩)) rfl
  have HRd := Lib.hid h1
  have HBy := Lib.hid hB
  clear h1 h7 h8 h9 hB
  go_enter Tryd.func27, Tryd.ntmps27
  go_wp2_with fail
  refine (get_any bs r p n w HRd.out HBy.out hl h2 hn).mono ?_
  rintro ev w1 (⟨hlt, rfl, hr1, hg1⟩ | ⟨hle, rfl, hr1, hg1⟩)
  · have H1 := Lib.hid (H.out.read hr1 h2 hg1)
    have S1 := Lib.hid (StStep.of_r (s := s) hg1 h5)
    clear hr1 hg1 c0
    go_wp2_with (go_at_call 32; refine (fail_any base s r bs p out most e 4 w1 H1.out).mono ?_; rintro ev w2 ⟨rfl, h2', s2, k2⟩; have H2 := Lib.hid h2'; have S2 := Lib.hid (S1.out.trans s2); clear h2' s2 k2)
    go_ret
    exact ⟨rfl, H2.out, S2.out⟩
  · exfalso; omega
theorem end_num (p : Nat) (h : p ≤ 8000000000) : IntKind.i64.wrap (((p : Int) + 8 - 1).tdiv 8) = (((p + 7) / 8 : Nat) : Int) := by
  rw [Int.tdiv_eq_ediv_of_nonneg (by omega), IntWalk.i64_in _ (by omega)]
  omega
theorem num_yes {bt : List Int} {p n : Nat} (h : p + n ≤ bt.length) : numR bt p n = .ok (numOf ((bt.drop p).take n)) (p + n) := by
  unfold numR; rw [if_pos h]

theorem own_from {w : World} {b b2 : Nat} {e : TypeId} {size n : Nat} {v : Value} {xs : List Value} (h : w.ownsRow b e size v n xs) (hb : ∀ j, v.ownBlock = some j → b2 ≤ j) : w.ownsRow b2 e size v n xs := by
  refine ⟨h.1, h.2.imp id ?_⟩
  rintro ⟨g', cap, cur, rfl, a1, a2⟩
  exact ⟨g', cap, cur, rfl, hb g' rfl, a2⟩
def InfO (base s r : Nat) (bs : List Int) (most : Nat) (T : Res (List Int)) (w : World) (k : Nat) (lv : Value) (wr : World) : Prop :=
  ∃ out p e la, lv = .int .i64 ((la : Nat) : Int) ∧ StrOk wr base s r bs p out (most : Int) e ∧ StStep w wr base s r ∧ out.length ≤ most ∧ TabsOk wr ∧
    ((e = 0 ∧ la = 0 ∧ T = blocksR (bitsOf bs) most k out p ∧ 8 * bs.length + 1 ≤ k + p) ∨ (e = 0 ∧ la ≠ 0 ∧ T = .ok out p) ∨ (∃ b, e = errOf b ∧ T = .bad b))
def InfAgree (T : Res (List Int)) (w : World) (ev : Ending) (w' : World) : Prop := match T with
  | .ok out p => ∃ A c, ev = .returned (.tuple #[.slice A out.length c, .int .i64 (((p + 7) / 8 : Nat) : Int), .int .i64 0]) ∧ w'.ownsRow w.heap.size 5 1 (.slice A out.length c) out.length (out.map (Value.int .u8)) ∧ Bytes out
  | .bad b => ev = .returned (.tuple #[.slice none 0 0, .int .i64 0, .int .i64 (errOf b)])
def InfPost (bs : List Int) (most : Int) (w : World) (ev : Ending) (w' : World) : Prop :=
  Below w.heap.size w w' ∧ if most < 0 ∨ 65536 < most then ev = .returned (.tuple #[.slice none 0 0, .int .i64 0, .int .i64 2]) else InfAgree (inflateR (bitsOf bs) most.toNat) w ev w'

theorem after_block {T R : Res (List Int)} {o6 : List Int} {p p6 la f len : Nat} {e6 : Int} {B : List Int → Nat → Res (List Int)} (ag : Agree R o6 p6 e6) (hT : T = R.bind fun out p => if la = 0 then B out p else .ok out p) (hmono : ∀ a q, R = .ok a q → p + 1 + 2 ≤ q) (hk : len + 1 ≤ f + 1 + p) :
    (e6 = 0 ∧ la = 0 ∧ T = B o6 p6 ∧ len + 1 ≤ f + p6) ∨ (e6 = 0 ∧ la ≠ 0 ∧ T = .ok o6 p6) ∨ (∃ b, e6 = errOf b ∧ T = .bad b) := by
  cases R with
  | ok a q =>
    obtain ⟨rfl, rfl, rfl⟩ := ag
    simp only [Res.bind] at hT
    have := hmono _ _ rfl
    by_cases h0 : la = 0
    · rw [if_pos h0] at hT
      exact .inl ⟨rfl, h0, hT, by omega⟩
    · rw [if_neg h0] at hT
      exact .inr (.inl ⟨rfl, h0, hT⟩)
  | bad b => exact .inr (.inr ⟨b, ag, hT⟩)
set_option maxHeartbeats 1600000 in
set_option maxRecDepth 100000 in
theorem inflate_any (bs : List Int) (A : Option Addr) (n cap : Nat) (most : Int) (w : World) (h : RdI .u8 w A n bs) (hB : Bytes bs) (hn : n ≤ 1000000000) (ht : TabsOk w) :
    Calls Tryd.prog 10 #[.slice A n cap, .int .i64 most] w (InfPost bs most w) := by
  have HRd := Lib.hid h
  have HBy := Lib.hid hB
  have HTb := Lib.hid ht
  have h8 : 5 ≤ w.heap.size := ht.2.2.2.2.2
  have hbl : bs.length ≤ 1000000000 := by have := h.1; omega
  clear h hB ht
  by_cases hm0 : most < 0
  · go_enter Tryd.func10, Tryd.ntmps10
    go_wp2
    go_ret3
    exact ⟨Below.refl _ _, by rw [if_pos (.inl hm0)]; rfl⟩
  by_cases hm1 : 65536 < most
  · have d0 : decide (most < 0) = false := by simpa using hm0
    go_enter Tryd.func10, Tryd.ntmps10
    go_wp2
    go_ret3
    exact ⟨Below.refl _ _, by rw [if_pos (.inr hm1)]; rfl⟩
  obtain ⟨mo, rfl⟩ : ∃ mo : Nat, most = (mo : Int) := ⟨most.toNat, by omega⟩
  have hmo : mo ≤ 65536 := by omega
  have HP := Lib.hid (show ∀ ev w', InfPost bs (mo : Int) w ev w' = (Below w.heap.size w w' ∧ InfAgree (inflateR (bitsOf bs) mo) w ev w') from fun ev w' => by unfold InfPost; rw [if_neg (by omega), Int.toNat_natCast])
  have d0 : decide ((mo : Int) < 0) = false := by simp
  have d1 : decide ((65536 : Int) < (mo : Int)) = false := by simpa using hm1
  clear hm0 hm1
  go_enter Tryd.func10, Tryd.ntmps10
  go_wp2_with fail
  refine (newReader_any bs A n cap w HRd.out hn).mono ?_
  rintro ev w1 ⟨r, rfl, hr, hrd, hb1⟩
  have R1 := Lib.hid hrd
  have B1 := Lib.hid hb1
  have hrlt : r < w1.heap.size := by obtain ⟨c2, hb⟩ := hrd.blk; exact hb.lt
  clear hrd hb1
  obtain ⟨T, hT⟩ : ∃ T, T = inflateR (bitsOf bs) mo := ⟨_, rfl⟩
  rw [← hT] at HP
  have HT := Lib.hid hT
  clear hT
  go_wp2
  obtain ⟨w2, hw2⟩ : ∃ w2, w2 = w1.alloc (.cells #[.pointer (some ⟨r, 0, none⟩), .slice none 0 0, .int .i64 (mo : Int), .int .i64 0] 57) := ⟨_, rfl⟩
  rw [← hw2]
  obtain ⟨s, hsE⟩ : ∃ s, s = w1.heap.size := ⟨_, rfl⟩
  have L2 : Below w1.heap.size w1 w2 := by rw [hw2]; exact (Below.refl _ _).alloc (Nat.le_refl _) _
  have hsz : w2.heap.size = s + 1 := by rw [hw2, hsE]; simp
  have H2 : StrOk w2 (s + 1) s r bs 0 [] (mo : Int) 0 := ⟨R1.out.below L2, by omega, by omega, by omega, by omega, (fun z hz => by cases hz), .slice none 0 0, by rw [hw2]; exact Blk.made_at _ _ _ hsE, ⟨rfl, .inl ⟨rfl, rfl⟩⟩, fun j hj => by cases hj⟩
  have HH2 := Lib.hid H2
  have TB2 := Lib.hid (HTb.out.below (below_chain B1.out L2))
  have BW := Lib.hid (below_chain B1.out L2)
  have hws : w.heap.size ≤ w1.heap.size := B1.out.size
  have hs8 : 5 ≤ s := by omega
  have hr8 : 5 ≤ r := by omega
  have hsw : w.heap.size ≤ s := by omega
  have hs2 : s + 1 ≤ w2.heap.size := by omega
  have FIN := Lib.hid (show ∀ w', StStep w2 w' (s + 1) s r → Below w.heap.size w w' from fun w' hst => by
    have hb := BW.out
    exact ⟨hst.os.trans hb.os, hst.tape.trans hb.tape, hst.output.trans hb.output, Nat.le_trans hb.size hst.size, fun k hk => (hst.low k (by omega) (by omega) (by omega)).trans (hb.block k hk)⟩)
  rw [← hsE]
  clear H2 hw2 L2 hsz hsE R1 B1 HRd HTb BW hrlt hws
  go_loopg [8] (8 * bs.length + 1) (InfO (s + 1) s r bs mo T w2)
  case atStart => exact ⟨[], 0, 0, 0, rfl, HH2.out, StStep.refl _ _ _ _, by simp, TB2.out, .inl ⟨rfl, rfl, by rw [HT.out]; unfold inflateR; rw [bitsOf_len], by omega⟩⟩
  case round =>
    clear HH2 TB2 HT
    obtain ⟨out, p, e, la, rfl, hs, st, hol, tb, hT⟩ := hrel
    have H := Lib.hid hs
    have S := Lib.hid st
    have TB := Lib.hid tb
    have c3 := hs.c3
    have hp := hs.2.1
    have h5 := hs.2.2.2.2.1
    have HT := Lib.hid hT
    obtain ⟨h1, _, _, _, _, hBo, vv, q7, q8, q9⟩ := hs
    clear st tb hT
    rcases HT.out with ⟨rfl, rfl, hT, hk⟩ | ⟨rfl, hla, hT⟩ | ⟨b, rfl, hT⟩
    ·
      obtain ⟨f, rfl⟩ : ∃ f, gk = f + 1 := ⟨gk - 1, by omega⟩
      have HT' := Lib.hid (show T = (numR (bitsOf bs) p 1).bind fun last p => (numR (bitsOf bs) p 2).bind fun kind p =>
        ((if kind = 0 then storedR (bitsOf bs) mo out p else if kind = 1 then codedR (bitsOf bs) mo fixedL fixedD out p else if kind = 2 then dynamicR (bitsOf bs) mo out p else .bad false : Res (List Int))).bind fun out p =>
          if last = 0 then blocksR (bitsOf bs) mo f out p else .ok out p from hT)
      clear hT HT h1 q7 q8 q9
      by_cases hb1 : 8 * bs.length < p + 1
      · have HTb := Lib.hid (show T = .bad false by rw [HT'.out]; unfold numR; rw [if_neg (by rw [bitsOf_len]; omega)]; rfl)
        clear HT'
        go_wp2_with fail
        refine (number_no (s + 1) s r bs p out (mo : Int) 0 1 wr H.out HBy.out hbl (by omega) hb1).mono ?_
        rintro ev w3 ⟨rfl, hs3, st3⟩
        rw [if_pos rfl] at hs3
        have H3 := Lib.hid hs3
        have S3 := Lib.hid (S.out.trans st3)
        have TB3 := Lib.hid (TB.out.step st3 hs8 hr8 (by omega))
        clear hs3 st3 H S TB c3
        go_wp2_with fail
        refine (number_no (s + 1) s r bs p out (mo : Int) 4 2 w3 H3.out HBy.out hbl (by omega) (by omega)).mono ?_
        rintro ev w4 ⟨rfl, hs4, st4⟩
        rw [if_neg (by omega)] at hs4
        have H4 := Lib.hid hs4
        have S4 := Lib.hid (S3.out.trans st4)
        have TB4 := Lib.hid (TB3.out.step st4 hs8 hr8 (by omega))
        have c34 := hs4.c3
        clear hs4 st4 H3 S3 TB3
        go_wp2
        go_roundg f
        case measure => omega
        case rel => exact ⟨out, p, 4, 0, rfl, H4.out, S4.out, hol, TB4.out, .inr (.inr ⟨false, rfl, HTb.out⟩)⟩
      · have hn1 := num_yes (bt := bitsOf bs) (p := p) (n := 1) (by rw [bitsOf_len]; omega)
        go_wp2_with fail
        refine (number_any (s + 1) s r bs p out (mo : Int) 0 1 wr H.out HBy.out hbl (by omega)).mono ?_
        rintro ev w3 ⟨la, p3, e3, rfl, hx3, hs3, st3, tk3, _⟩
        rw [hn1] at tk3 HT'
        obtain ⟨hla, hp3, he3⟩ := tk3
        rw [← hla] at HT'
        simp only [Res.bind] at HT'
        subst hp3 he3
        have hla2 : la < 2 := hx3
        have H3 := Lib.hid hs3
        have S3 := Lib.hid (S.out.trans st3)
        have TB3 := Lib.hid (TB.out.step st3 hs8 hr8 (by omega))
        clear hs3 st3 H S TB c3 hla hn1 hx3
        by_cases hb2 : 8 * bs.length < p + 1 + 2
        · have HTb := Lib.hid (show T = .bad false by rw [HT'.out]; unfold numR; rw [if_neg (by rw [bitsOf_len]; omega)])
          clear HT'
          go_wp2_with fail
          refine (number_no (s + 1) s r bs (p + 1) out (mo : Int) 0 2 w3 H3.out HBy.out hbl (by omega) (by omega)).mono ?_
          rintro ev w4 ⟨rfl, hs4, st4⟩
          rw [if_pos rfl] at hs4
          have H4 := Lib.hid hs4
          have S4 := Lib.hid (S3.out.trans st4)
          have TB4 := Lib.hid (TB3.out.step st4 hs8 hr8 (by omega))
          have c34 := hs4.c3
          clear hs4 st4 H3 S3 TB3
          go_wp2
          go_roundg f
          case measure => omega
          case rel => exact ⟨out, p + 1, 4, la, rfl, H4.out, S4.out, hol, TB4.out, .inr (.inr ⟨false, rfl, HTb.out⟩)⟩
        · have hn2 := num_yes (bt := bitsOf bs) (p := p + 1) (n := 2) (by rw [bitsOf_len]; omega)
          go_wp2_with fail
          refine (number_any (s + 1) s r bs (p + 1) out (mo : Int) 0 2 w3 H3.out HBy.out hbl (by omega)).mono ?_
          rintro ev w4 ⟨kd, p4, e4, rfl, hx4, hs4, st4, tk4, _⟩
          rw [hn2] at tk4 HT'
          obtain ⟨hkd, hp4, he4⟩ := tk4
          simp only at HT'
          rw [← hkd] at HT'
          subst hp4 he4
          have hkd4 : kd < 4 := hx4
          have H4 := Lib.hid hs4
          have S4 := Lib.hid (S3.out.trans st4)
          have TB4 := Lib.hid (TB3.out.step st4 hs8 hr8 (by omega))
          have c34 := hs4.c3
          have h54 := hs4.2.2.2.2.1
          clear hs4 st4 H3 S3 TB3 hkd hn2 hx4
          obtain rfl | rfl | rfl | rfl : kd = 0 ∨ kd = 1 ∨ kd = 2 ∨ kd = 3 := by omega
          · rw [if_pos rfl] at HT'
            go_wp2_with fail
            refine (stored_any (s + 1) s r bs (p + 1 + 2) out mo w4 H4.out HBy.out hbl hmo hol).mono ?_
            rintro ev w6 ⟨p6, o6, e6, rfl, hs6, st6, ho6, ag6⟩
            have H6 := Lib.hid hs6
            have S6 := Lib.hid (S4.out.trans st6)
            have TB6 := Lib.hid (TB4.out.step st6 hs8 hr8 (by omega))
            have TF := Lib.hid (after_block (la := la) ag6 HT'.out (fun a q h => storedR_mono h) (show 8 * bs.length + 1 ≤ f + 1 + p by omega))
            clear hs6 st6 ag6 H4 S4 TB4 c34 HT'
            go_wp2
            go_roundg f
            case measure => omega
            case rel => exact ⟨o6, p6, e6, la, rfl, H6.out, S6.out, ho6, TB6.out, TF.out⟩
          · rw [if_neg (by decide), if_pos rfl] at HT'
            go_wp2_with fail
            refine (fixed_any w4).mono ?_
            rintro ev w5 ⟨Al, Ad, cl, cd, rfl, hrl, hrd, hb5⟩
            have RL := Lib.hid hrl
            have RD := Lib.hid hrd
            have B5 := Lib.hid hb5
            clear hrl hrd hb5
            go_wp2_with fail
            have H5 := Lib.hid (H4.out.below B5.out)
            have S5 := Lib.hid (S4.out.trans (StStep.of_below B5.out h54))
            have TB5 := Lib.hid (TB4.out.below B5.out)
            clear H4 S4 TB4 c34
            refine (coded_any (s + 1) s r bs fixedL fixedD (p + 1 + 2) out mo Al Ad 288 32 cl cd w5 H5.out RL.out RD.out (by omega) (by omega) TB5.out hs8 hr8 HBy.out hbl hmo hol).mono ?_
            have H4 := H5
            have S4 := S5
            have TB4 := TB5
            have c34 := H5.out.c3
            rintro ev w6 ⟨p6, o6, e6, rfl, hs6, st6, ho6, ag6⟩
            have H6 := Lib.hid hs6
            have S6 := Lib.hid (S4.out.trans st6)
            have TB6 := Lib.hid (TB4.out.step st6 hs8 hr8 (by omega))
            have TF := Lib.hid (after_block (la := la) ag6 HT'.out (fun a q h => codedR_mono h) (show 8 * bs.length + 1 ≤ f + 1 + p by omega))
            clear hs6 st6 ag6 H4 S4 TB4 c34 HT'
            go_wp2
            go_roundg f
            case measure => omega
            case rel => exact ⟨o6, p6, e6, la, rfl, H6.out, S6.out, ho6, TB6.out, TF.out⟩
          · rw [if_neg (by decide), if_neg (by decide), if_pos rfl] at HT'
            go_wp2_with fail
            refine (dynamic_any (s + 1) s r bs (p + 1 + 2) out mo w4 H4.out TB4.out hs8 hr8 HBy.out hbl hmo hol).mono ?_
            rintro ev w6 ⟨p6, o6, e6, rfl, hs6, st6, ho6, ag6⟩
            have H6 := Lib.hid hs6
            have S6 := Lib.hid (S4.out.trans st6)
            have TB6 := Lib.hid (TB4.out.step st6 hs8 hr8 (by omega))
            have TF := Lib.hid (after_block (la := la) ag6 HT'.out (fun a q h => dynamicR_mono h) (show 8 * bs.length + 1 ≤ f + 1 + p by omega))
            clear hs6 st6 ag6 H4 S4 TB4 c34 HT'
            go_wp2
            go_roundg f
            case measure => omega
            case rel => exact ⟨o6, p6, e6, la, rfl, H6.out, S6.out, ho6, TB6.out, TF.out⟩
          · rw [if_neg (by decide), if_neg (by decide), if_neg (by decide)] at HT'
            simp only at HT'
            go_wp2_with fail
            refine (fail_any (s + 1) s r bs (p + 1 + 2) out (mo : Int) 0 4 w4 H4.out).mono ?_
            rintro ev w6 ⟨rfl, hs6, st6, _⟩
            rw [if_pos rfl] at hs6
            have H6 := Lib.hid hs6
            have S6 := Lib.hid (S4.out.trans st6)
            have TB6 := Lib.hid (TB4.out.step st6 hs8 hr8 (by omega))
            clear hs6 st6 H4 S4 TB4 c34
            go_wp2
            go_roundg f
            case measure => omega
            case rel => exact ⟨out, p + 1 + 2, 4, la, rfl, H6.out, S6.out, hol, TB6.out, .inr (.inr ⟨false, rfl, HT'.out⟩)⟩
    · have HT' := Lib.hid hT
      clear hT HT
      have dla : ((la : Int) == 0) = false := by simp; omega
      obtain ⟨Ao, co, rfl, _⟩ := own_slice q8
      have c1 := q7.cell (i := 1) (v := .slice Ao out.length co) rfl
      have c0 := q7.cell (i := 0) (v := .pointer (some ⟨r, 0, none⟩)) rfl
      have O := Lib.hid q8
      have O9 := Lib.hid q9
      have R := Lib.hid h1
      clear q7 q8 q9 h1
      go_wp2
      refine wp_region_qs (fun j w' => (j ≤ 1 → w'.cell? ⟨s, 1, none⟩ = some (.slice Ao out.length co)) ∧ (j ≤ 0 → w'.cell? ⟨s, 0, none⟩ = some (.pointer (some ⟨r, 0, none⟩)))) [(0, some 1), (1, some 1), (2, some 1), (3, some 1), (4, some 1), (5, some 1), (6, some 1), (7, some 0), (8, none), (9, some 1), (10, some 1), (11, some 1), (12, some 1), (13, some 1), (14, some 1)] (by kernel_rfl) (by kernel_rfl) (by kernel_rfl) (by kernel_rfl) (by kernel_rfl) (fun _ _ _ _ _ h => h) ⟨fun _ => c1, fun _ => c0⟩ ?_
      simp only [List.map_cons, List.map_nil, List.getD_cons_succ, List.getD_cons_zero]
      (repeat (first | (refine qs_now (v := ?_) (by rfl) ?_ ?_; rotate_left 1; (· (intro w' hS; go_simp; (try (simp only [↓IntWalk.iteOmega]; go_simp)); (try simp (disch := omega) only [IntWalk.i64_in]); try with_reducible rfl)); simp only [Act.put, List.setIfInBounds_toArray, List.set_cons_zero, List.set_cons_succ]) | (refine qs_run (v := ?_) (by rfl) ?_ ?_; rotate_left 1; (· (intro j w' hS; go_simp; (try (simp only [↓IntWalk.iteOmega]; go_simp)); (try simp (disch := omega) only [IntWalk.i64_in]); try with_reducible rfl)); simp only [Act.put, List.setIfInBounds_toArray, List.set_cons_zero, List.set_cons_succ]) | (refine qs_mid (v := ?_) (by rfl) ?_ ?_; rotate_left 1; (· (intro j w' hj1 hj2 hS; go_simp; (try (simp only [↓IntWalk.iteOmega]; go_simp)); (try simp (disch := omega) only [IntWalk.i64_in]); try with_reducible rfl)); simp only [Act.put, List.setIfInBounds_toArray, List.set_cons_zero, List.set_cons_succ]) | (refine qs_skip (by rfl) ?_; simp only [Act.put, List.setIfInBounds_toArray, List.set_cons_zero, List.set_cons_succ])))
      refine qs_act ?_
      go_wp2_with fail
      refine (at_any r p bs wr.drew (R.out.below (Below.refl _ _).drew)).mono ?_
      rintro ev w8 ⟨rfl, rfl⟩
      have B8 := Lib.hid ((Below.refl wr.heap.size wr).drew)
      have c18 : wr.drew.cell? ⟨s, 1, none⟩ = some (.slice Ao out.length co) := c1
      clear c1 c0
      go_wp2
      refine ⟨⟨fun _ => c18, fun h => absurd h (by omega)⟩, ?_⟩
      (repeat (first | (refine qs_now (v := ?_) (by rfl) ?_ ?_; rotate_left 1; (· (intro w' hS; go_simp; (try (simp only [↓IntWalk.iteOmega]; go_simp)); (try simp (disch := omega) only [IntWalk.i64_in]); try with_reducible rfl)); simp only [Act.put, List.setIfInBounds_toArray, List.set_cons_zero, List.set_cons_succ]) | (refine qs_run (v := ?_) (by rfl) ?_ ?_; rotate_left 1; (· (intro j w' hS; go_simp; (try (simp only [↓IntWalk.iteOmega]; go_simp)); (try simp (disch := omega) only [IntWalk.i64_in]); try with_reducible rfl)); simp only [Act.put, List.setIfInBounds_toArray, List.set_cons_zero, List.set_cons_succ]) | (refine qs_mid (v := ?_) (by rfl) ?_ ?_; rotate_left 1; (· (intro j w' hj1 hj2 hS; go_simp; (try (simp only [↓IntWalk.iteOmega]; go_simp)); (try simp (disch := omega) only [IntWalk.i64_in]); try with_reducible rfl)); simp only [Act.put, List.setIfInBounds_toArray, List.set_cons_zero, List.set_cons_succ]) | (refine qs_skip (by rfl) ?_; simp only [Act.put, List.setIfInBounds_toArray, List.set_cons_zero, List.set_cons_succ])))
      refine qs_nil ?_
      go_wp2
      go_ret3
      rw [HP.out, HT'.out]
      have hst := S.out.trans (StStep.of_below B8.out h5)
      refine ⟨FIN.out _ hst, Ao, co, ?_, ?_, hBo⟩
      · show Ending.returned (.tuple #[.slice Ao out.length co, .int .i64 (IntKind.i64.wrap (((p : Int) + 8 - 1).tdiv 8)), .int .i64 0]) = _
        rw [end_num p (by omega)]
      · exact own_from (own_below O.out B8.out) (fun j hj => by have := O9.out j hj; omega)
    · have HT' := Lib.hid hT
      clear hT HT h1 q7 q8 q9
      have hne := errOf_ne b
      obtain ⟨E, hE⟩ : ∃ E, E = errOf b := ⟨_, rfl⟩
      rw [← hE] at c3 H hne
      have dE1 : (E == 0) = false := by simpa using hne
      have dE2 : (E != 0) = true := by simpa using hne
      have HE := Lib.hid hE
      clear hE hne
      by_cases hla : la = 0
      · subst hla
        go_wp2
        refine wp_region_qs (fun _ w' => w'.cell? ⟨s, 3, none⟩ = some (.int .i64 E)) [(0, some 0), (1, some 0), (2, some 0), (3, some 0), (4, some 0), (5, some 0), (6, some 0)] (by kernel_rfl) (by kernel_rfl) (by kernel_rfl) (by kernel_rfl) (by kernel_rfl) (fun _ _ _ _ _ h => h) c3 ?_
        simp only [List.map_cons, List.map_nil, List.getD_cons_succ, List.getD_cons_zero]
        (repeat (first | (refine qs_now (v := ?_) (by rfl) ?_ ?_; rotate_left 1; (· (intro w' hS; go_simp; (try (simp only [↓IntWalk.iteOmega]; go_simp)); (try simp (disch := omega) only [IntWalk.i64_in]); try with_reducible rfl)); simp only [Act.put, List.setIfInBounds_toArray, List.set_cons_zero, List.set_cons_succ]) | (refine qs_run (v := ?_) (by rfl) ?_ ?_; rotate_left 1; (· (intro j w' hS; go_simp; (try (simp only [↓IntWalk.iteOmega]; go_simp)); (try simp (disch := omega) only [IntWalk.i64_in]); try with_reducible rfl)); simp only [Act.put, List.setIfInBounds_toArray, List.set_cons_zero, List.set_cons_succ]) | (refine qs_skip (by rfl) ?_; simp only [Act.put, List.setIfInBounds_toArray, List.set_cons_zero, List.set_cons_succ])))
        refine qs_nil ?_
        go_wp2
        go_ret3
        rw [HP.out, HT'.out]
        have hE := HE.out
        subst hE
        exact ⟨(FIN.out _ S.out).drew, rfl⟩
      · have dla : ((la : Int) == 0) = false := by simp; omega
        go_wp2
        refine wp_region_qs (fun _ w' => w'.cell? ⟨s, 3, none⟩ = some (.int .i64 E)) [(0, some 0), (1, some 0), (2, some 0), (3, some 0), (4, some 0), (5, some 0), (6, some 0)] (by kernel_rfl) (by kernel_rfl) (by kernel_rfl) (by kernel_rfl) (by kernel_rfl) (fun _ _ _ _ _ h => h) c3 ?_
        simp only [List.map_cons, List.map_nil, List.getD_cons_succ, List.getD_cons_zero]
        (repeat (first | (refine qs_now (v := ?_) (by rfl) ?_ ?_; rotate_left 1; (· (intro w' hS; go_simp; (try (simp only [↓IntWalk.iteOmega]; go_simp)); (try simp (disch := omega) only [IntWalk.i64_in]); try with_reducible rfl)); simp only [Act.put, List.setIfInBounds_toArray, List.set_cons_zero, List.set_cons_succ]) | (refine qs_run (v := ?_) (by rfl) ?_ ?_; rotate_left 1; (· (intro j w' hS; go_simp; (try (simp only [↓IntWalk.iteOmega]; go_simp)); (try simp (disch := omega) only [IntWalk.i64_in]); try with_reducible rfl)); simp only [Act.put, List.setIfInBounds_toArray, List.set_cons_zero, List.set_cons_succ]) | (refine qs_skip (by rfl) ?_; simp only [Act.put, List.setIfInBounds_toArray, List.set_cons_zero, List.set_cons_succ])))
        refine qs_nil ?_
        go_wp2
        go_ret3
        rw [HP.out, HT'.out]
        have hE := HE.out
        subst hE
        exact ⟨(FIN.out _ S.out).drew, rfl⟩
end Go.Proofs.YtlhaehefhhcgaaaDoor
namespace Go.Proofs.YtlhaehefhhcgaaaDoor
set_option linter.unusedVariables false

def Grows (n : Nat) (R : Res (List Int)) : Prop := ∀ a p, R = .ok a p → n ≤ a.length
/-- R is read where more may be, S where m may be. -/
def Lim (m : Nat) (R S : Res (List Int)) : Prop := ∀ a p, R = .ok a p → (a.length ≤ m → S = .ok a p) ∧ (m < a.length → S = .bad true)
theorem Grows.bind {n : Nat} {R : Res (List Int)} {G : List Int → Nat → Res (List Int)} (h : Grows n R) (hg : ∀ a p, Grows a.length (G a p)) : Grows n (R.bind G) := fun b q hb => by
  obtain ⟨a, p, h1, h2⟩ := bind_ok hb
  exact Nat.le_trans (h a p h1) (hg a p b q h2)
theorem grows_any {α : Type} {n : Nat} {R : Res α} {G : α → Nat → Res (List Int)} (hg : ∀ a p, Grows n (G a p)) : Grows n (R.bind G) := fun b q hb => by
  obtain ⟨a, p, h1, h2⟩ := bind_ok hb
  exact hg a p b q h2
theorem lim_any {α : Type} {m : Nat} {R : Res α} {G H : α → Nat → Res (List Int)} (hg : ∀ a p, Lim m (G a p) (H a p)) : Lim m (R.bind G) (R.bind H) := fun b q hb => by
  obtain ⟨a, p, h1, h2⟩ := bind_ok hb
  subst h1
  exact hg a p b q h2
theorem Lim.bind {m : Nat} {R S : Res (List Int)} {G H : List Int → Nat → Res (List Int)} (h : Lim m R S) (hl : ∀ a p, Grows a.length (G a p)) (hg : ∀ a p, a.length ≤ m → Lim m (G a p) (H a p)) : Lim m (R.bind G) (S.bind H) := fun b q hb => by
  obtain ⟨a, p, h1, h2⟩ := bind_ok hb
  obtain ⟨k1, k2⟩ := h a p h1
  have hgr := hl a p b q h2
  by_cases ha : a.length ≤ m
  · rw [k1 ha]
    exact hg a p ha b q h2
  · rw [k2 (by omega)]
    exact ⟨fun hb => by omega, fun _ => rfl⟩
theorem lim_bad (m : Nat) (b : Bool) (S : Res (List Int)) : Lim m (.bad b) S := fun a p h => by cases h
theorem grows_bad (n : Nat) (b : Bool) : Grows n (.bad b) := fun a p h => by cases h
theorem grows_ok {n : Nat} {a : List Int} (h : n ≤ a.length) (p : Nat) : Grows n (.ok a p) := fun b q hb => by
  injection hb with h1 h2
  subst h1
  exact h
theorem lim_ok {m : Nat} {a : List Int} (p : Nat) (h : a.length ≤ m) : Lim m (.ok a p) (.ok a p) := fun b q hb => by
  injection hb with h1 h2
  subst h1; subst h2
  exact ⟨fun _ => rfl, fun hm => by omega⟩
theorem copyR_length (out : List Int) (far : Nat) : ∀ n, (copyR out far n).length = out.length + n
  | 0 => rfl
  | n + 1 => by rw [copyR, List.length_append, copyR_length out far n]; rfl
/-- A row of just so many bytes more, where they may be. -/
theorem lim_test {M m k : Nat} {a : List Int} (p : Nat) (hk : a.length = k) : Lim m (if M < k then .bad true else .ok a p) (if m < k then .bad true else .ok a p) := by
  intro b q hb
  split at hb
  · cases hb
  · injection hb with h1 h2
    subst h1; subst h2
    rw [hk]
    refine ⟨fun h => if_neg (by omega), fun h => if_pos h⟩
theorem grows_test {M n k : Nat} {a : List Int} (p : Nat) (h : n ≤ a.length) : Grows n (if M < k then .bad true else .ok a p) := by
  intro b q hb
  split at hb
  · cases hb
  · injection hb with h1 h2
    subst h1
    exact h

theorem bytesR_length (bt : List Int) (p n : Nat) : (bytesR bt p n).length = n := by simp [bytesR]
theorem storedR_grows (bt : List Int) (M : Nat) (out : List Int) (p : Nat) : Grows out.length (storedR bt M out p) := by
  unfold storedR
  refine grows_any fun n p => grows_any fun m2 p => ?_
  split
  · exact grows_bad _ _
  · exact grows_test _ (by rw [List.length_append]; omega)
theorem storedR_lim (bt : List Int) (M m : Nat) (out : List Int) (p : Nat) : Lim m (storedR bt M out p) (storedR bt m out p) := by
  unfold storedR
  refine lim_any fun n p => lim_any fun m2 p => ?_
  split
  · exact lim_bad _ _ _
  · exact lim_test _ (by rw [List.length_append, bytesR_length])
theorem matchR_grows (bt : List Int) (M : Nat) (ds out : List Int) (v p : Nat) : Grows out.length (matchR bt M ds out v p) := by
  unfold matchR
  split
  · exact grows_bad _ _
  refine grows_any fun n p => grows_any fun k p => ?_
  split
  · exact grows_bad _ _
  refine grows_any fun y p => ?_
  split
  · exact grows_bad _ _
  · exact grows_test _ (by rw [copyR_length]; omega)
theorem matchR_lim (bt : List Int) (M m : Nat) (ds out : List Int) (v p : Nat) : Lim m (matchR bt M ds out v p) (matchR bt m ds out v p) := by
  unfold matchR
  split
  · exact lim_bad _ _ _
  refine lim_any fun n p => lim_any fun k p => ?_
  split
  · exact lim_bad _ _ _
  refine lim_any fun y p => ?_
  split
  · exact lim_bad _ _ _
  · exact lim_test _ (copyR_length _ _ _)
theorem symsR_grows (bt : List Int) (M : Nat) (zs ds : List Int) : ∀ (f : Nat) (out : List Int) (p : Nat), Grows out.length (symsR bt M zs ds f out p)
  | 0, _, _ => grows_bad _ _
  | f + 1, out, p => by
    rw [symsR]
    refine grows_any fun s p => ?_
    split
    · exact grows_ok (Nat.le_refl _) _
    split
    · exact (matchR_grows bt M ds out (s - 257) p).bind fun a p => symsR_grows bt M zs ds f a p
    split
    · exact grows_bad _ _
    · intro b q hb
      have := symsR_grows bt M zs ds f _ _ b q hb
      rw [List.length_append] at this
      omega
theorem symsR_lim (bt : List Int) (M m : Nat) (zs ds : List Int) : ∀ (f : Nat) (out : List Int) (p : Nat), out.length ≤ m → Lim m (symsR bt M zs ds f out p) (symsR bt m zs ds f out p)
  | 0, _, _, _ => lim_bad _ _ _
  | f + 1, out, p, ho => by
    rw [symsR, symsR]
    refine lim_any fun s p => ?_
    split
    · exact lim_ok _ ho
    split
    · exact (matchR_lim bt M m ds out (s - 257) p).bind (fun a p => symsR_grows bt M zs ds f a p) (fun a p ha => symsR_lim bt M m zs ds f a p ha)
    split
    · exact lim_bad _ _ _
    · intro b q hb
      by_cases hm : m < out.length + 1
      · rw [if_pos hm]
        have := symsR_grows bt M zs ds f _ _ b q hb
        rw [List.length_append] at this
        simp only [List.length_cons, List.length_nil] at this
        exact ⟨fun h => by omega, fun _ => rfl⟩
      · rw [if_neg hm]
        exact symsR_lim bt M m zs ds f _ _ (by rw [List.length_append]; simp only [List.length_cons, List.length_nil]; omega) b q hb
theorem codedR_grows (bt : List Int) (M : Nat) (zs ds out : List Int) (p : Nat) : Grows out.length (codedR bt M zs ds out p) := by
  unfold codedR
  split
  · exact symsR_grows _ _ _ _ _ _ _
  · exact grows_bad _ _
theorem codedR_lim (bt : List Int) (M m : Nat) (zs ds out : List Int) (p : Nat) (ho : out.length ≤ m) : Lim m (codedR bt M zs ds out p) (codedR bt m zs ds out p) := by
  unfold codedR
  split
  · exact symsR_lim _ _ _ _ _ _ _ _ ho
  · exact lim_bad _ _ _
theorem dynamicR_grows (bt : List Int) (M : Nat) (out : List Int) (p : Nat) : Grows out.length (dynamicR bt M out p) := by
  unfold dynamicR
  refine grows_any fun n p => grows_any fun m2 p => grows_any fun c p => ?_
  split
  · exact grows_bad _ _
  refine grows_any fun sh p => ?_
  split
  · refine grows_any fun all p => ?_
    split
    · exact grows_bad _ _
    · exact codedR_grows _ _ _ _ _ _
  · exact grows_bad _ _
theorem dynamicR_lim (bt : List Int) (M m : Nat) (out : List Int) (p : Nat) (ho : out.length ≤ m) : Lim m (dynamicR bt M out p) (dynamicR bt m out p) := by
  unfold dynamicR
  refine lim_any fun n p => lim_any fun m2 p => lim_any fun c p => ?_
  split
  · exact lim_bad _ _ _
  refine lim_any fun sh p => ?_
  split
  · refine lim_any fun all p => ?_
    split
    · exact lim_bad _ _ _
    · exact codedR_lim _ _ _ _ _ _ _ ho
  · exact lim_bad _ _ _
theorem blockR_grows (bt : List Int) (M kind : Nat) (out : List Int) (p : Nat) : Grows out.length (if kind = 0 then storedR bt M out p else if kind = 1 then codedR bt M fixedL fixedD out p else if kind = 2 then dynamicR bt M out p else .bad false) := by
  split
  · exact storedR_grows _ _ _ _
  split
  · exact codedR_grows _ _ _ _ _ _
  split
  · exact dynamicR_grows _ _ _ _
  · exact grows_bad _ _
theorem blockR_lim (bt : List Int) (M m kind : Nat) (out : List Int) (p : Nat) (ho : out.length ≤ m) : Lim m (if kind = 0 then storedR bt M out p else if kind = 1 then codedR bt M fixedL fixedD out p else if kind = 2 then dynamicR bt M out p else .bad false)
    (if kind = 0 then storedR bt m out p else if kind = 1 then codedR bt m fixedL fixedD out p else if kind = 2 then dynamicR bt m out p else .bad false) := by
  split
  · exact storedR_lim _ _ _ _ _
  split
  · exact codedR_lim _ _ _ _ _ _ _ ho
  split
  · exact dynamicR_lim _ _ _ _ _ ho
  · exact lim_bad _ _ _
theorem blocksR_grows (bt : List Int) (M : Nat) : ∀ (f : Nat) (out : List Int) (p : Nat), Grows out.length (blocksR bt M f out p)
  | 0, _, _ => grows_bad _ _
  | f + 1, out, p => by
    rw [blocksR]
    refine grows_any fun last p => grows_any fun kind p => ?_
    refine (blockR_grows bt M kind out p).bind fun a p => ?_
    split
    · exact blocksR_grows bt M f a p
    · exact grows_ok (Nat.le_refl _) _
theorem blocksR_lim (bt : List Int) (M m : Nat) : ∀ (f : Nat) (out : List Int) (p : Nat), out.length ≤ m → Lim m (blocksR bt M f out p) (blocksR bt m f out p)
  | 0, _, _, _ => lim_bad _ _ _
  | f + 1, out, p, ho => by
    rw [blocksR, blocksR]
    refine lim_any fun last p => lim_any fun kind p => ?_
    refine (blockR_lim bt M m kind out p ho).bind (fun a p => ?_) (fun a p ha => ?_)
    · split
      · exact blocksR_grows bt M f a p
      · exact grows_ok (Nat.le_refl _) _
    · split
      · exact blocksR_lim bt M m f a p ha
      · exact lim_ok _ ha
/-- A text is read whole if as many bytes may be, and refused as too long if fewer may. -/
theorem inflateR_lim {bt a : List Int} {M p : Nat} (h : inflateR bt M = .ok a p) : inflateR bt a.length = .ok a p ∧ ∀ m, m < a.length → inflateR bt m = .bad true :=
  ⟨(blocksR_lim bt M a.length _ [] 0 (Nat.zero_le _) a p h).1 (Nat.le_refl _), fun m hm => (blocksR_lim bt M m _ [] 0 (Nat.zero_le _) a p h).2 hm⟩
end Go.Proofs.YtlhaehefhhcgaaaDoor
namespace Go.Proofs.YtlhaehefhhcgaaaDoor
open Go.RowKit
set_option linter.unusedVariables false

def infOut (bs : List Int) (most : Int) : List Int × Int × Int :=
  if most < 0 ∨ 65536 < most then ([], 0, 2) else match inflateR (bitsOf bs) most.toNat with
    | .ok out p => (out, (((p + 7) / 8 : Nat) : Int), 0)
    | .bad b => ([], 0, errOf b)
theorem infOut_len (bs : List Int) (most : Int) : (infOut bs most).1.length ≤ 65536 := by
  unfold infOut
  split
  · simp
  · rename_i h
    split
    · rename_i out p ho
      rcases Nat.lt_or_ge 65536 out.length with h1 | h1
      · have := (inflateR_lim ho).2 most.toNat (by omega)
        rw [this] at ho
        cases ho
      · exact h1
    · simp
theorem InfPost.out {bs : List Int} {most : Int} {w : World} {ev : Ending} {w' : World} (h : InfPost bs most w ev w') :
    ∃ A c, ev = .returned (.tuple #[.slice A (infOut bs most).1.length c, .int .i64 (infOut bs most).2.1, .int .i64 (infOut bs most).2.2]) ∧ w'.ownsRow w.heap.size 5 1 (.slice A (infOut bs most).1.length c) (infOut bs most).1.length ((infOut bs most).1.map (Value.int .u8)) ∧ Bytes (infOut bs most).1 ∧ Below w.heap.size w w' := by
  obtain ⟨hb, h⟩ := h
  unfold infOut
  by_cases hm : most < 0 ∨ 65536 < most
  · rw [if_pos hm] at h
    rw [if_pos hm]
    exact ⟨none, 0, h, ⟨rfl, .inl ⟨rfl, rfl⟩⟩, (fun z hz => by cases hz), hb⟩
  · rw [if_neg hm] at h
    rw [if_neg hm]
    cases hR : inflateR (bitsOf bs) most.toNat with
    | ok out p =>
      rw [hR] at h
      obtain ⟨A, c, h1, h2, h3⟩ := h
      exact ⟨A, c, h1, h2, h3, hb⟩
    | bad b =>
      rw [hR] at h
      exact ⟨none, 0, h, ⟨rfl, .inl ⟨rfl, rfl⟩⟩, (fun z hz => by cases hz), hb⟩
/-- The beginning of a row. -/
theorem rd_prefix {k : IntKind} {w : World} {A : Option Addr} {n m : Nat} {zs ys : List Int} (h : RdI k w A (n + m) (zs ++ ys)) (hz : zs.length = n) : RdI k w A n zs := by
  refine ⟨hz, fun hn => ?_⟩
  obtain ⟨b, off, rfl, hlt, hc⟩ := h.2 (by omega)
  refine ⟨b, off, rfl, hlt, fun j hj => ?_⟩
  rw [hc j (by omega)]
  congr 2
  simp [List.getD, List.getElem?_append_left (show j < zs.length by omega)]
theorem rd_own_prefix {k : IntKind} {w : World} {base g n m c : Nat} {e : TypeId} {zs ys : List Int} (h : w.ownsRow base e 1 (.slice (some ⟨g, 0, none⟩) (n + m) c) (n + m) ((zs ++ ys).map (Value.int k))) (hz : zs.length = n) : RdI k w (some ⟨g, 0, none⟩) n zs :=
  rd_prefix (RdI.of_own h) hz
end Go.Proofs.YtlhaehefhhcgaaaDoor
namespace Go.Proofs.YtlhaehefhhcgaaaDoor
open Go.RowKit
theorem bytes_wf6 {l : List Int} (h : ∀ n ∈ l, (Lit.int .u8 n).wf = true) : Bytes l := by
  intro z hz
  have := h z hz
  simp only [Lit.wf, decide_eq_true_eq, Bool.and_eq_true] at this
  simp [IntKind.min, IntKind.max, IntKind.bits, IntKind.signed] at this
  omega
theorem len_max {n c : Nat} (h : n ≤ c) (h2 : c ≤ maxLen) : n ≤ 9223372036854775807 := by unfold maxLen at h2; omega
end Go.Proofs.YtlhaehefhhcgaaaDoor
