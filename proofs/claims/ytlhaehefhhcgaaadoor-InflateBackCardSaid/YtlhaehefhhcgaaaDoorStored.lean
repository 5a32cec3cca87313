/-
  inflate's stored blocks, walked.
  inflate's tables, as package variables: what lies in their blocks; that a stream leaves them alone.
-/
import Derived.Test.YtlhaehefhhcgaaaDoorStream
namespace Go.Proofs.YtlhaehefhhcgaaaDoor
open Go.RowKit
set_option linter.unusedVariables false

/-- A grown row is laid down. -/
theorem str_lay {w : World} {base s r p : Nat} {bs out : List Int} {most e : Int} {A : Option Addr} {n c : Nat} {v : Value} (h1 : RdrOk w r bs p) (h2 : p ≤ 8 * bs.length) (h3 : r < base) (h4 : s < base) (h5 : base ≤ w.heap.size) (hB : Bytes out)
    (h7 : Blk w s 57 #[.pointer (some ⟨r, 0, none⟩), .slice A n c, .int .i64 most, .int .i64 e]) (ho : w.ownsRow 0 5 1 v out.length (out.map (Value.int .u8))) (hlo : ∀ j, v.ownBlock = some j → base ≤ j) :
    StrOk (w.setCell ⟨s, 1, none⟩ v) base s r bs p out most e ∧ StStep w (w.setCell ⟨s, 1, none⟩ v) base s r := by
  have hg := grown_put w ⟨s, 1, none⟩ v
  obtain ⟨c2, hrb⟩ := h1.blk
  refine ⟨⟨h1.keep (hg.block r hrb.lt (fun e => ?_)) hg.size (fun b hb ⟨o, z, hc⟩ => hg.block b (by omega) (fun e => ?_)), h2, h3, h4, Nat.le_trans h5 hg.size, hB, v, h7.put 1 v, ho.kept hg (st_apart h7 ho (by decide)), hlo⟩, StStep.of_s hg h5⟩
  · injection e with e
    exact blk_ne hrb h7 (by decide) e
  · injection e with e
    subst e
    exact str_no8 h7 o z hc
theorem bytesR_succ (bt : List Int) (p n : Nat) : bytesR bt p (n + 1) = bytesR bt p n ++ [(numOf ((bt.drop (p + 8 * n)).take 8) : Int)] := by simp [bytesR, List.range_succ]
theorem bytesR_len (bt : List Int) (p n : Nat) : (bytesR bt p n).length = n := by simp [bytesR]
theorem src_u8 (W : World) (t : TypeId) (y : Value) : Src (W.alloc (.cells #[y] t)) 1 (.slice (some ⟨W.heap.size, 0, none⟩) 1 1) 1 [y] :=
  ⟨_, 1, rfl, rfl, fun _ => ⟨W.heap.size, 0, rfl, by simp, fun j u hu => by rw [Nat.zero_add, (Blk.made W t #[y]).cellq]; simpa using hu⟩⟩

theorem took_or {e : Int} {T : Res Nat} {v p' : Nat} {e' : Int} (h : Took e T v p' e') : (T = .ok v p' ∧ e' = e) ∨ (∃ b, T = .bad b ∧ v = 0 ∧ e' = if e = 0 then errOf b else e) := by
  cases T with
  | ok a q => exact .inl ⟨by rw [h.1, h.2.1], h.2.2⟩
  | bad b => exact .inr ⟨b, rfl, h⟩
theorem numR_bad {bt : List Int} {p n : Nat} {b : Bool} (h : numR bt p n = .bad b) : b = false := by
  unfold numR at h
  split at h
  · cases h
  · injection h with h; exact h.symm
/-- Both numbers, read one behind the other. -/
theorem stored_two {bt : List Int} {a n p2 m p3 : Nat} {e2 e3 : Int} {F : Nat → Nat → Nat → Res (List Int)} {T : Res (List Int)} (hT : T = (numR bt a 16).bind fun n p => (numR bt p 16).bind fun m p => F n m p)
    (h2 : Took 0 (numR bt a 16) n p2 e2) (h3 : Took e2 (numR bt p2 16) m p3 e3) : (e3 = 4 ∧ T = .bad false) ∨ (e3 = 0 ∧ T = F n m p3) := by
  rcases took_or h2 with ⟨k2, rfl⟩ | ⟨b, k2, _, hh⟩
  · rcases took_or h3 with ⟨k3, rfl⟩ | ⟨b, k3, _, hh⟩
    · right
      rw [k2] at hT
      simp only [Res.bind] at hT
      rw [k3] at hT
      exact ⟨rfl, hT⟩
    · left
      obtain rfl := numR_bad k3
      rw [k2] at hT
      simp only [Res.bind] at hT
      rw [k3] at hT
      exact ⟨hh, hT⟩
  · obtain rfl := numR_bad k2
    rw [if_pos rfl] at hh
    have e4 : e2 = 4 := hh
    left
    rw [k2] at hT
    refine ⟨?_, hT⟩
    rcases took_or h3 with ⟨_, h⟩ | ⟨b, _, _, h⟩
    · rw [h, e4]
    · rw [h, e4]; rfl

def VoidPost (base s r : Nat) (bs : List Int) (most : Nat) (T : Res (List Int)) (w : World) (ev : Ending) (w' : World) : Prop :=
  ∃ p' out' e', ev = .returned (.tuple #[]) ∧ StrOk w' base s r bs p' out' (most : Int) e' ∧ StStep w w' base s r ∧ out'.length ≤ most ∧ Agree T out' p' e'
def Sto (base s r : Nat) (bs out : List Int) (most p n : Nat) (w : World) (iv : Value) (wr : World) : Prop :=
  ∃ i : Nat, i ≤ n ∧ iv = .int .i64 i ∧ StrOk wr base s r bs (p + 8 * i) (out ++ bytesR (bitsOf bs) p i) (most : Int) 0 ∧ StStep w wr base s r

set_option maxHeartbeats 1600000 in
theorem stored_any (base s r : Nat) (bs : List Int) (p : Nat) (out : List Int) (most : Nat) (w : World) (h : StrOk w base s r bs p out (most : Int) 0) (hB : Bytes bs) (hl : bs.length ≤ 1000000000) (hm : most ≤ 65536) (ho : out.length ≤ most) :
    Calls Tryd.prog 28 #[.pointer (some ⟨s, 0, none⟩)] w (VoidPost base s r bs most (storedR (bitsOf bs) most out p) w) := by
  have H := Lib.hid h
  obtain ⟨h1, h2, h3, h4, h5, h6, v, h7, h8, h9⟩ := h
  have c0 := h7.cell (i := 0) (v := .pointer (some ⟨r, 0, none⟩)) rfl
  have HRd := Lib.hid h1
  have HBy := Lib.hid hB
  clear h1 h7 h8 h9 hB
  have hal : alignR p ≤ 8 * bs.length := by unfold alignR; omega
  have HT : Hid (storedR (bitsOf bs) most out p = _) := rfl
  have HTu := Lib.hid (show storedR (bitsOf bs) most out p = (numR (bitsOf bs) (alignR p) 16).bind fun n p => (numR (bitsOf bs) p 16).bind fun m p =>
    if n + m ≠ 65535 ∨ (bitsOf bs).length < p + 8 * n then .bad false else if most < out.length + n then .bad true else .ok (out ++ bytesR (bitsOf bs) p n) (p + 8 * n) from rfl)
  clear HT
  generalize storedR (bitsOf bs) most out p = T at *
  go_enter Tryd.func28, Tryd.ntmps28
  go_wp2_with fail
  refine (align_any r bs p w HRd.out hl h2).mono ?_
  rintro ev w1 ⟨rfl, hr1, hg1⟩
  have H1 := Lib.hid (H.out.read hr1 hal hg1)
  have S1 := Lib.hid (StStep.of_r (s := s) hg1 h5)
  clear hr1 hg1 c0 H HRd
  go_wp2_with fail
  refine (number_any base s r bs (alignR p) out (most : Int) 0 16 w1 H1.out HBy.out hl (by omega)).mono ?_
  rintro ev w2 ⟨n, p2, e2, rfl, hn2, hs2, st2, tk2, _⟩
  have H2 := Lib.hid hs2
  have S2 := Lib.hid (S1.out.trans st2)
  have T2 := Lib.hid tk2
  clear hs2 st2 tk2 S1 H1
  go_wp2_with fail
  refine (number_any base s r bs p2 out (most : Int) e2 16 w2 H2.out HBy.out hl (by omega)).mono ?_
  rintro ev w3 ⟨m, p3, e3, rfl, hn3, hs3, st3, tk3, _⟩
  have H3 := Lib.hid hs3
  have S3 := Lib.hid (S2.out.trans st3)
  have T3 := Lib.hid tk3
  clear hs3 st3 tk3 S2 H2
  have HX := Lib.hid (xor_nat n m hn2 hn3)
  have HXf := Lib.hid (xor_full n m hn2 hn3)
  have hxl : n ^^^ m < 65536 := Nat.xor_lt_two_pow (n := 16) hn2 hn3
  have H2T := Lib.hid (stored_two HTu.out T2.out T3.out)
  rw [bitsOf_len] at H2T
  clear HTu T2 T3
  obtain ⟨q1, q2, q3, q4, q5, q6, vv, q7, q8, q9⟩ := H3.out
  have c0 := q7.cell (i := 0) (v := .pointer (some ⟨r, 0, none⟩)) rfl
  have HRd3 := Lib.hid q1
  clear q1 q7 q8 q9
  have d65 : (((n ^^^ m : Nat) : Int) != 65535) = decide (n + m ≠ 65535) := by
    rw [bne, Bool.eq_iff_iff]
    have := HXf.out
    simp only [Bool.not_eq_true', beq_eq_false_iff_ne, ne_eq, decide_eq_true_eq]
    omega
  have HD := Lib.hid d65
  clear d65
  by_cases hsum : n + m = 65535
  · have d1 : (bits .xor .i64 (n : Int) (m : Int) != 65535) = false := by rw [HX.out, HD.out]; simpa using hsum
    by_cases hleft : 8 * bs.length < p3 + 8 * n
    · have d2 : decide ((8 * (bs.length : Int) - p3) < 8 * (n : Int)) = true := by simp; omega
      go_wp2_with (first
        | (go_at_call 55; refine (left_any r p3 bs w3 HRd3.out hl q2).mono ?_; rintro ev w4 ⟨rfl, hb4, _⟩; have H4 := Lib.hid (H3.out.below hb4); have S4 := Lib.hid (S3.out.trans (StStep.of_below hb4 q5)); clear hb4)
        | (go_at_call 32; refine (fail_any base s r bs p3 out (most : Int) e3 4 w4 H4.out).mono ?_; rintro ev w5 ⟨rfl, h5', s5, _⟩; have H5 := Lib.hid h5'; have S5 := Lib.hid (S4.out.trans s5); clear h5' s5)
        | fail)
      have he5 : (if e3 = 0 then (4 : Int) else e3) = 4 ∧ T = .bad false := by
        rcases H2T.out with ⟨h, k⟩ | ⟨h, k⟩
        · rw [if_neg (by omega)]; exact ⟨h, k⟩
        · rw [if_pos (by omega)] at k
          rw [if_pos h]; exact ⟨rfl, k⟩
      rw [he5.1] at H5
      have HT := Lib.hid he5.2
      clear he5 H2T
      refine (room_any base s r bs p3 out (most : Int) 4 n w5 H5.out (by omega) (by omega)).mono ?_
      rintro ev w6 ⟨e6, rfl, h6', s6, he6⟩
      rw [if_neg (by omega)] at he6
      subst he6
      have H6 := Lib.hid h6'
      have S6 := Lib.hid (S5.out.trans s6)
      clear h6' s6 H5 S5 c0
      go_wp2
      go_end0
      exact ⟨p3, out, 4, rfl, H6.out, S6.out, ho, by rw [HT.out]; rfl⟩
    · have d2 : decide ((8 * (bs.length : Int) - p3) < 8 * (n : Int)) = false := by simp; omega
      have H2T' := Lib.hid (show (e3 = 4 ∧ T = .bad false) ∨ (e3 = 0 ∧ T = if most < out.length + n then .bad true else .ok (out ++ bytesR (bitsOf bs) p3 n) (p3 + 8 * n)) by
        rcases H2T.out with h | ⟨h, k⟩
        · exact .inl h
        · right
          rw [if_neg (by omega)] at k
          exact ⟨h, k⟩)
      clear H2T
      go_wp2_with (first
        | (go_at_call 55; refine (left_any r p3 bs w3 HRd3.out hl q2).mono ?_; rintro ev w4 ⟨rfl, hb4, _⟩; have H4 := Lib.hid (H3.out.below hb4); have S4 := Lib.hid (S3.out.trans (StStep.of_below hb4 q5)); clear hb4)
        | fail)
      refine (room_any base s r bs p3 out (most : Int) e3 n w4 H4.out (by omega) (by omega)).mono ?_
      rintro ev w6 ⟨e6, rfl, h6', s6, he6⟩
      have H6 := Lib.hid h6'
      have S6 := Lib.hid (S4.out.trans s6)
      clear h6' s6 H4 S4 c0
      rcases H2T'.out with ⟨he3, hT⟩ | ⟨he3, hT⟩
      · rw [he3, if_neg (by omega)] at he6
        subst he6
        go_wp2
        go_end0
        exact ⟨p3, out, 4, rfl, H6.out, S6.out, ho, by rw [hT]; rfl⟩
      · by_cases hlong : most < out.length + n
        · rw [he3, if_pos ⟨rfl, by omega⟩] at he6
          rw [if_pos hlong] at hT
          subst he6
          go_wp2
          go_end0
          exact ⟨p3, out, 3, rfl, H6.out, S6.out, ho, by rw [hT]; rfl⟩
        · rw [he3, if_neg (by omega)] at he6
          rw [if_neg hlong] at hT
          subst he6
          have HT := Lib.hid hT
          clear hT H2T'
          go_wp2
          go_loopw [34] (Sto base s r bs out most p3 n w) (fun i _ => n - (intOf i).toNat)
          case atStart => exact ⟨0, by omega, rfl, by simpa [bytesR] using H6.out, S6.out⟩
          case round =>
            clear H6 S6
            obtain ⟨i, hi, rfl, hs, hst⟩ := hrel
            have HS := Lib.hid hs
            have HSt := Lib.hid hst
            clear hs hst
            by_cases hlt : i < n
            · have hltI : (i : Int) < n := by omega
              obtain ⟨g1, g2, g3, g4, g5, g6, v, g7, g8, g9⟩ := HS.out
              obtain ⟨A, c, rfl, _⟩ := own_slice g8
              have c1 := g7.cell (i := 1) (v := .slice A (out ++ bytesR (bitsOf bs) p3 i).length c) rfl
              have HV := Lib.hid g7
              have hol : (out ++ bytesR (bitsOf bs) p3 i).length = out.length + i := by rw [List.length_append, bytesR_len]
              have HBs := Lib.hid (bytesR_succ (bitsOf bs) p3 i)
              have HOl := Lib.hid hol
              have H9 := Lib.hid g9
              clear g1 g7 g8 g9 hol
              generalize ho1 : out ++ bytesR (bitsOf bs) p3 i = o1 at *
              have HO1 := Lib.hid ho1
              clear ho1
              go_wp2
              refine wp_region_qs (fun j w' => j ≤ 2 → w'.cell? ⟨s, 1, none⟩ = some (.slice A o1.length c)) [(0, some 3), (1, some 3), (2, some 3), (3, some 3), (4, some 2), (5, some 2), (6, none), (7, some 2), (8, none), (9, none), (10, some 4), (11, some 3), (12, none)] (by kernel_rfl) (by kernel_rfl) (by kernel_rfl) (by kernel_rfl) (by kernel_rfl) (fun _ _ _ _ _ h => h) (fun _ => c1) ?_
              simp only [List.map_cons, List.map_nil, List.getD_cons_succ, List.getD_cons_zero]
              (repeat (first | (refine qs_now (v := ?_) (by rfl) ?_ ?_; rotate_left 1; (· (intro w' hS; go_simp; (try (simp only [↓IntWalk.iteOmega]; go_simp)); (try simp (disch := omega) only [IntWalk.i64_in]); try with_reducible rfl)); simp only [Act.put, List.setIfInBounds_toArray, List.set_cons_zero, List.set_cons_succ]) | (refine qs_run (v := ?_) (by rfl) ?_ ?_; rotate_left 1; (· (intro j w' hS; go_simp; (try (simp only [↓IntWalk.iteOmega]; go_simp)); (try simp (disch := omega) only [IntWalk.i64_in]); try with_reducible rfl)); simp only [Act.put, List.setIfInBounds_toArray, List.set_cons_zero, List.set_cons_succ]) | (refine qs_mid (v := ?_) (by rfl) ?_ ?_; rotate_left 1; (· (intro j w' hj1 hj2 hS; go_simp; (try (simp only [↓IntWalk.iteOmega]; go_simp)); (try simp (disch := omega) only [IntWalk.i64_in]); try with_reducible rfl)); simp only [Act.put, List.setIfInBounds_toArray, List.set_cons_zero, List.set_cons_succ]) | (refine qs_skip (by rfl) ?_; simp only [Act.put, List.setIfInBounds_toArray, List.set_cons_zero, List.set_cons_succ])))
              refine qs_act ?_
              go_wp2_with fail
              refine (number_any base s r bs (p3 + 8 * i) o1 (most : Int) 0 8 wr.drew (HS.out.below (Below.refl _ _).drew) HBy.out hl (by omega)).mono ?_
              rintro ev w7 ⟨x, p7, e7, rfl, hx, hs7, st7, tk7, k7⟩
              have hnum : numR (bitsOf bs) (p3 + 8 * i) 8 = .ok (numOf (((bitsOf bs).drop (p3 + 8 * i)).take 8)) (p3 + 8 * i + 8) := by
                unfold numR
                rw [if_pos (by rw [bitsOf_len]; omega)]
              rw [hnum] at tk7
              obtain ⟨hx7, hp7, he7⟩ := tk7
              rw [← hx7] at HBs
              subst hp7
              subst he7
              have c7 : w7.cell? ⟨s, 1, none⟩ = some (.slice A o1.length c) := k7.trans c1
              have H7 := Lib.hid hs7
              have S7 := Lib.hid (HSt.out.trans ((StStep.of_below (Below.refl _ _).drew g5).trans st7))
              clear hnum hx7 hs7 st7 k7 HS HSt
              have hx256 : x < 256 := hx
              have hxI : (x : Int) < 256 := by omega
              go_wp2
              refine ⟨fun _ => c7, ?_⟩
              obtain ⟨a1, a2, a3, a4, a5, a6, v7, a7, a8, a9⟩ := H7.out
              obtain rfl : v7 = .slice A o1.length c := by
                have := a7.cell (i := 1) rfl
                rw [c7] at this
                injection this with this
                exact this.symm
              have A7 := Lib.hid a7
              have A8 := Lib.hid a8
              have A9 := Lib.hid a9
              clear a1 a7 a8 a9
              (repeat (first | (refine qs_now (v := ?_) (by rfl) ?_ ?_; rotate_left 1; (· (intro w' hS; go_simp; (try (simp only [↓IntWalk.iteOmega]; go_simp)); (try simp (disch := omega) only [IntWalk.i64_in]); try with_reducible rfl)); simp only [Act.put, List.setIfInBounds_toArray, List.set_cons_zero, List.set_cons_succ]) | (refine qs_run (v := ?_) (by rfl) ?_ ?_; rotate_left 1; (· (intro j w' hS; go_simp; (try (simp only [↓IntWalk.iteOmega]; go_simp)); (try simp (disch := omega) only [IntWalk.i64_in]); try with_reducible rfl)); simp only [Act.put, List.setIfInBounds_toArray, List.set_cons_zero, List.set_cons_succ]) | (refine qs_mid (v := ?_) (by rfl) ?_ ?_; rotate_left 1; (· (intro j w' hj1 hj2 hS; go_simp; (try (simp only [↓IntWalk.iteOmega]; go_simp)); (try simp (disch := omega) only [IntWalk.i64_in]); try with_reducible rfl)); simp only [Act.put, List.setIfInBounds_toArray, List.set_cons_zero, List.set_cons_succ]) | (refine qs_skip (by rfl) ?_; simp only [Act.put, List.setIfInBounds_toArray, List.set_cons_zero, List.set_cons_succ])))
              refine qs_act ?_
              go_wp2
              obtain ⟨w8, hw8⟩ : ∃ w8, w8 = w7.alloc (.cells #[.int .u8 (x : Int)] 5) := ⟨_, rfl⟩
              rw [← hw8]
              have L8 := Lib.hid (show Below w7.heap.size w7 w8 by rw [hw8]; exact (Below.refl _ _).alloc (Nat.le_refl _) _)
              have S8 := Lib.hid (show Src w8 1 (.slice (some ⟨w7.heap.size, 0, none⟩) 1 1) 1 [.int .u8 (x : Int)] by rw [hw8]; exact src_u8 _ _ _)
              clear hw8
              have H8 := Lib.hid (H7.out.below L8.out)
              have B8 := Lib.hid (A7.out.below L8.out A7.out.lt)
              have O8 := Lib.hid (own_below A8.out L8.out)
              refine ⟨fun _ => B8.out.cell (i := 1) rfl, ?_⟩
              (repeat (first | (refine qs_now (v := ?_) (by rfl) ?_ ?_; rotate_left 1; (· (intro w' hS; go_simp; (try (simp only [↓IntWalk.iteOmega]; go_simp)); (try simp (disch := omega) only [IntWalk.i64_in]); try with_reducible rfl)); simp only [Act.put, List.setIfInBounds_toArray, List.set_cons_zero, List.set_cons_succ]) | (refine qs_run (v := ?_) (by rfl) ?_ ?_; rotate_left 1; (· (intro j w' hS; go_simp; (try (simp only [↓IntWalk.iteOmega]; go_simp)); (try simp (disch := omega) only [IntWalk.i64_in]); try with_reducible rfl)); simp only [Act.put, List.setIfInBounds_toArray, List.set_cons_zero, List.set_cons_succ]) | (refine qs_mid (v := ?_) (by rfl) ?_ ?_; rotate_left 1; (· (intro j w' hj1 hj2 hS; go_simp; (try (simp only [↓IntWalk.iteOmega]; go_simp)); (try simp (disch := omega) only [IntWalk.i64_in]); try with_reducible rfl)); simp only [Act.put, List.setIfInBounds_toArray, List.set_cons_zero, List.set_cons_succ]) | (refine qs_skip (by rfl) ?_; simp only [Act.put, List.setIfInBounds_toArray, List.set_cons_zero, List.set_cons_succ])))
              refine qs_act ?_
              refine app_src rfl (.tmp 40) (.tmp 44) 22 rfl 0 5 _ 1 1 Tryd.underlying22 infoByte rfl (by omega) _ o1.length _ rfl O8.out _ 1 _ rfl S8.out (by simp [Value.oneCell']) (by have := HOl.out; omega) (by have := HOl.out; omega) (Nat.zero_le _) ?_
              intro v9 w9 ho9 hg9 hor9
              obtain ⟨A9', c9, hv9, _⟩ := own_slice ho9
              subst hv9
              replace hg9 : w8.grownBy w9 (Value.slice A o1.length c).ownBlock := hg9
              replace hor9 : (Value.slice A9' (o1.length + 1) c9).ownBlock = (Value.slice A o1.length c).ownBlock ∨ (Value.slice A9' (o1.length + 1) c9).ownBlock = some w8.heap.size := hor9
              obtain ⟨r9, b9, st9⟩ := H8.out.grow B8.out hg9
              have hb9 : base ≤ w9.heap.size := Nat.le_trans (Nat.le_trans a5 L8.out.size) hg9.size
              have lo9 : ∀ j, (Value.slice A9' (o1.length + 1) c9).ownBlock = some j → base ≤ j := fun j hj => by
                rcases hor9 with e | e
                · exact A9.out j (by rw [← e, hj])
                · rw [hj] at e
                  injection e with e
                  have := L8.out.size
                  omega
              have hB9 : Bytes (o1 ++ [(x : Int)]) := fun z hz => by
                rcases List.mem_append.1 hz with hz | hz
                · exact a6 z hz
                · obtain rfl : z = (x : Int) := by simpa using hz
                  omega
              have hlay := str_lay (v := .slice A9' (o1.length + 1) c9) r9 a2 a3 a4 hb9 hB9 b9 (by simpa using ho9) lo9
              have HLay := Lib.hid hlay
              have ST9 := Lib.hid (S7.out.trans ((StStep.of_below L8.out a5).trans st9))
              have f9 := b9.free 1
              have d9 := b9.cell (i := 1) rfl
              clear ho9 hg9 hor9 hlay r9 b9 st9 lo9 hB9
              refine wpList_nil ?_
              refine ⟨fun h => absurd h (by omega), ?_⟩
              (repeat (first | (refine qs_now (v := ?_) (by rfl) ?_ ?_; rotate_left 1; (· (intro w' hS; go_simp; (try (simp only [↓IntWalk.iteOmega]; go_simp)); (try simp (disch := omega) only [IntWalk.i64_in]); try with_reducible rfl)); simp only [Act.put, List.setIfInBounds_toArray, List.set_cons_zero, List.set_cons_succ]) | (refine qs_run (v := ?_) (by rfl) ?_ ?_; rotate_left 1; (· (intro j w' hS; go_simp; (try (simp only [↓IntWalk.iteOmega]; go_simp)); (try simp (disch := omega) only [IntWalk.i64_in]); try with_reducible rfl)); simp only [Act.put, List.setIfInBounds_toArray, List.set_cons_zero, List.set_cons_succ]) | (refine qs_mid (v := ?_) (by rfl) ?_ ?_; rotate_left 1; (· (intro j w' hj1 hj2 hS; go_simp; (try (simp only [↓IntWalk.iteOmega]; go_simp)); (try simp (disch := omega) only [IntWalk.i64_in]); try with_reducible rfl)); simp only [Act.put, List.setIfInBounds_toArray, List.set_cons_zero, List.set_cons_succ]) | (refine qs_skip (by rfl) ?_; simp only [Act.put, List.setIfInBounds_toArray, List.set_cons_zero, List.set_cons_succ])))
              refine qs_act ?_
              go_wp2
              refine ⟨fun h => absurd h (by omega), ?_⟩
              refine qs_nil ?_
              go_wp2
              go_roundw
              case rel =>
                refine ⟨i + 1, by omega, by go_num, ?_, ST9.out.trans HLay.out.2⟩
                rw [HBs.out, ← List.append_assoc, HO1.out, show p3 + 8 * (i + 1) = p3 + 8 * i + 8 from by omega]
                exact HLay.out.1
              case measure => simp [intOf]; omega
            · obtain rfl : i = n := by omega
              go_wp2
              go_end0
              exact ⟨_, _, 0, rfl, HS.out, HSt.out, by rw [List.length_append, bytesR_len]; omega, by rw [HT.out]; exact ⟨rfl, rfl, rfl⟩⟩
  · have d1 : (bits .xor .i64 (n : Int) (m : Int) != 65535) = true := by rw [HX.out, HD.out]; simpa using hsum
    have S4 := S3
    go_wp2_with (first
      | (go_at_call 32; refine (fail_any base s r bs p3 out (most : Int) e3 4 w3 H3.out).mono ?_; rintro ev w5 ⟨rfl, h5', s5, _⟩; have H5 := Lib.hid h5'; have S5 := Lib.hid (S4.out.trans s5); clear h5' s5)
      | fail)
    have he5 : (if e3 = 0 then (4 : Int) else e3) = 4 ∧ T = .bad false := by
      rcases H2T.out with ⟨h, k⟩ | ⟨h, k⟩
      · rw [if_neg (by omega)]; exact ⟨h, k⟩
      · rw [if_pos (by omega)] at k
        rw [if_pos h]; exact ⟨rfl, k⟩
    rw [he5.1] at H5
    have HT := Lib.hid he5.2
    clear he5 H2T
    refine (room_any base s r bs p3 out (most : Int) 4 n w5 H5.out (by omega) (by omega)).mono ?_
    rintro ev w6 ⟨e6, rfl, h6', s6, he6⟩
    rw [if_neg (by omega)] at he6
    subst he6
    have H6 := Lib.hid h6'
    have S6 := Lib.hid (S5.out.trans s6)
    clear h6' s6 H5 S5 c0
    go_wp2
    go_end0
    exact ⟨p3, out, 4, rfl, H6.out, S6.out, ho, by rw [HT.out]; rfl⟩
end Go.Proofs.YtlhaehefhhcgaaaDoor
namespace Go.Proofs.YtlhaehefhhcgaaaDoor
open Go.RowKit
set_option linter.unusedVariables false

def TabAt (w : World) (g : Nat) (l : List Int) : Prop := ∀ i, i < l.length → w.cell? ⟨g, i, none⟩ = some (.int .i64 (l.getD i 0))
/-- The five tables. -/
def TabsOk (w : World) : Prop :=
  TabAt w 1 lbases ∧ TabAt w 2 lbits ∧ TabAt w 3 dbases ∧ TabAt w 4 dbits ∧ TabAt w 0 orderL ∧ 5 ≤ w.heap.size
theorem TabAt.keep {w w' : World} {g : Nat} {l : List Int} (h : TabAt w g l) (hk : w'.heap[g]? = w.heap[g]?) : TabAt w' g l := fun i hi => (World.cell?_of_block (a := ⟨g, i, none⟩) hk).trans (h i hi)
theorem TabsOk.keep {w w' : World} (h : TabsOk w) (hs : w.heap.size ≤ w'.heap.size) (hk : ∀ g, g < 5 → w'.heap[g]? = w.heap[g]?) : TabsOk w' := by
  obtain ⟨h1, h2, h3, h4, h5, h6⟩ := h
  exact ⟨h1.keep (hk _ (by decide)), h2.keep (hk _ (by decide)), h3.keep (hk _ (by decide)), h4.keep (hk _ (by decide)), h5.keep (hk _ (by decide)), by omega⟩
theorem TabsOk.below {w w' : World} (h : TabsOk w) (hb : Below w.heap.size w w') : TabsOk w' := h.keep hb.size (fun g hg => hb.block g (by have := h.2.2.2.2.2; omega))
theorem TabsOk.step {w w' : World} {base s r : Nat} (h : TabsOk w) (hst : StStep w w' base s r) (hs : 5 ≤ s) (hr : 5 ≤ r) (hb : 5 ≤ base) : TabsOk w' := h.keep hst.size (fun g hg => hst.low g (by omega) (by omega) (by omega))
theorem lb_bd : ∀ i, i < 29 → 3 ≤ lbases.getD i 0 ∧ lbases.getD i 0 ≤ 258 ∧ 0 ≤ lbits.getD i 0 ∧ lbits.getD i 0 ≤ 5 := by decide
theorem db_bd : ∀ i, i < 30 → 1 ≤ dbases.getD i 0 ∧ dbases.getD i 0 ≤ 24577 ∧ 0 ≤ dbits.getD i 0 ∧ dbits.getD i 0 ≤ 13 := by decide
end Go.Proofs.YtlhaehefhhcgaaaDoor
