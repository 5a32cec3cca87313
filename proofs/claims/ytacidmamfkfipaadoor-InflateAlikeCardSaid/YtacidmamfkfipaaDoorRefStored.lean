/-
  The document's stored blocks.
-/
import Derived.Test.YtacidmamfkfipaaDoorRefSym
namespace Go.Proofs.YtacidmamfkfipaaDoor
open Go.RowKit
set_option linter.unusedVariables false

theorem rtook_next {e1 : Int} {T1 : Res Nat} {v p2 : Nat} {e2 : Int} {T : Res (List Int)} {G : Nat → Nat → Res (List Int)} (hb : ∀ b, T1 = .bad b → b = false) (h1 : (e1 = 4 ∧ T = .bad false) ∨ (e1 = 0 ∧ T = T1.bind G)) (h : RTook e1 T1 v p2 e2) :
    (e2 = 4 ∧ T = .bad false) ∨ (e2 = 0 ∧ T = G v p2) := by
  rcases h with ⟨rfl, h⟩ | ⟨hne, _, rfl⟩
  · exact took_next hb h1 h
  · rcases h1 with h1 | h1
    · exact .inl h1
    · exact absurd h1.1 hne
def RVoid (base s : Nat) (bs : List Int) (most : Nat) (T : Res (List Int)) (w : World) (ev : Ending) (w' : World) : Prop :=
  ∃ p' out' e', ev = .returned (.tuple #[]) ∧ RefOk w' base s bs p' out' (most : Int) e' ∧ StStep w w' base s s ∧ out'.length ≤ most ∧ Agree T out' p' e'
def RAl (base s : Nat) (bs out : List Int) (p : Nat) (most e : Int) (w : World) (k : Nat) (wr : World) : Prop :=
  ∃ q, p ≤ q ∧ q + k = alignR p ∧ RefOk wr base s bs q out most e ∧ StStep w wr base s s
def RDead (base s : Nat) (bs out : List Int) (p : Nat) (most e : Int) (w : World) (k : Nat) (iv : Value) (wr : World) : Prop :=
  iv = .int .i64 0 ∧ RefOk wr base s bs p out most e ∧ StStep w wr base s s
def RSto (base s : Nat) (bs out : List Int) (most p n : Nat) (w : World) (k : Nat) (iv : Value) (wr : World) : Prop :=
  ∃ i : Nat, i + k = n ∧ iv = .int .i64 i ∧ RefOk wr base s bs (p + 8 * i) (out ++ bytesR (bitsOf bs) p i) (most : Int) 0 ∧ StStep w wr base s s
theorem RefOk.parts {w : World} {base s p : Nat} {bs out : List Int} {most e : Int} (h : RefOk w base s bs p out most e) : ∃ A c A2 c2, Blk w s 64 #[.slice A (8 * bs.length) c, .int .i64 p, .slice A2 out.length c2, .int .i64 most, .int .i64 e] ∧
    w.ownsRow 0 5 1 (.slice A2 out.length c2) out.length (out.map (Value.int .u8)) ∧ (∀ j, (Value.slice A2 out.length c2).ownBlock = some j → base ≤ j) := by
  obtain ⟨h1, h2, h3, h4, A, c, v, h5, h6, h7, h8, h9⟩ := h
  obtain ⟨A2, c2, rfl, _⟩ := own_slice h8
  exact ⟨A, c, A2, c2, h5, h8, h9⟩

set_option maxHeartbeats 1600000 in
set_option maxRecDepth 100000 in
theorem rstored_any (base s : Nat) (bs : List Int) (p : Nat) (out : List Int) (most : Nat) (w : World) (h : RefOk w base s bs p out (most : Int) 0) (hB : Bytes bs) (hl : bs.length ≤ 1000000000) (hm : most ≤ 65536) (ho : out.length ≤ most) :
    Calls Tryd.prog 35 #[.pointer (some ⟨s, 0, none⟩)] w (RVoid base s bs most (storedR (bitsOf bs) most out p) w) := by
  have H := Lib.hid h
  have HBy := Lib.hid hB
  have h3 := h.2.2.1
  have hp := h.1
  have hal : alignR p ≤ 8 * bs.length := by unfold alignR; omega
  have hal2 : p ≤ alignR p := by unfold alignR; omega
  have hal8 : ∀ q, p ≤ q → q ≤ alignR p → q % 8 = 0 → q = alignR p := by unfold alignR; omega
  have HA8 := Lib.hid hal8
  clear h hB hal8
  obtain ⟨T, hT⟩ : ∃ T, T = storedR (bitsOf bs) most out p := ⟨_, rfl⟩
  rw [← hT]
  have HT := Lib.hid (show T = (numR (bitsOf bs) (alignR p) 16).bind fun n p => (numR (bitsOf bs) p 16).bind fun m p =>
    if n + m ≠ 65535 ∨ (bitsOf bs).length < p + 8 * n then .bad false else if most < out.length + n then .bad true else .ok (out ++ bytesR (bitsOf bs) p n) (p + 8 * n) from hT)
  clear hT
  go_enter Tryd.func35, Tryd.ntmps35
  go_wp2
  go_loopg [] (alignR p - p) (RAl base s bs out p (most : Int) 0 w)
  case atStart => exact ⟨p, Nat.le_refl _, by omega, H.out, StStep.refl _ _ _ _⟩
  case round =>
    clear H
    obtain ⟨q, hq1, hq2, hs, hst⟩ := hrel
    have H := Lib.hid hs
    have S := Lib.hid hst
    have hbs := hs.2.2.1
    have hq3 := hs.1
    obtain ⟨A0, c0, A1, c1, b0, o0, l0⟩ := hs.parts
    have g1 := b0.cell (i := 1) (v := .int .i64 (q : Int)) rfl
    have f1 := b0.free 1
    have B0 := Lib.hid b0
    have O0 := Lib.hid o0
    have LO := Lib.hid l0
    have hBo := hs.2.2.2.1
    clear hs hst b0 o0 l0
    by_cases hq8 : q % 8 = 0
    · have dq : ((q : Int) % 8 != 0) = false := by simp; omega
      obtain rfl := HA8.out q hq1 (by omega) hq8
      clear B0 O0 LO f1 HA8
      go_wp2_with fail
      refine (rnumber_any base s bs (alignR p) out (most : Int) 0 16 wr H.out HBy.out hl (by omega)).mono ?_
      rintro ev w2 ⟨n, p2, e2, rfl, hn2, hs2, st2, tk2, _⟩
      have H2 := Lib.hid hs2
      have S2 := Lib.hid (S.out.trans st2)
      have T2 := Lib.hid (rtook_next (fun b => numR_bad) (.inr ⟨rfl, HT.out⟩) tk2)
      clear hs2 st2 tk2 H S HT
      go_wp2_with fail
      refine (rnumber_any base s bs p2 out (most : Int) e2 16 w2 H2.out HBy.out hl (by omega)).mono ?_
      rintro ev w3 ⟨m, p3, e3, rfl, hn3, hs3, st3, tk3, _⟩
      have H3 := Lib.hid hs3
      have S3 := Lib.hid (S2.out.trans st3)
      have T3 := Lib.hid (rtook_next (fun b => numR_bad) T2.out tk3)
      have h33 := hs3.2.2.1
      have hp3 := hs3.1
      clear hs3 st3 tk3 H2 S2 T2
      have hn65 : n < 65536 := hn2
      have hm65 : m < 65536 := hn3
      clear hn2 hn3
      rw [bitsOf_len] at T3
      by_cases hsum : n + m = 65535
      · have dsum : ((n : Int) + m != 65535) = false := by simp; omega
        rcases T3.out with ⟨rfl, hT3⟩ | ⟨rfl, hT3⟩
        · have HTb := Lib.hid hT3
          clear hT3 T3
          have H7 := H3
          have S7 := S3
          clear H3 S3
          obtain ⟨A7, c7, A27, c27, b7, _, _⟩ := H7.out.parts
          have f0 := b7.cell (i := 0) (v := .slice A7 (8 * bs.length) c7) rfl
          have f1 := b7.cell (i := 1) (v := .int .i64 (p3 : Int)) rfl
          have f4 := b7.cell (i := 4) (v := .int .i64 4) rfl
          have hb7 := H7.out.2.2.1
          clear b7
          go_wp2
          refine wp_region_qs (fun _ w' => w'.cell? ⟨s, 0, none⟩ = some (.slice A7 (8 * bs.length) c7) ∧ w'.cell? ⟨s, 1, none⟩ = some (.int .i64 (p3 : Int)) ∧ w'.cell? ⟨s, 4, none⟩ = some (.int .i64 4)) [(0, some 0), (1, some 0), (2, some 0), (3, some 0), (4, some 0), (5, some 0), (6, some 0), (7, some 0), (8, some 0), (9, some 0), (10, some 0), (11, some 0), (12, some 0), (13, some 0), (14, some 0), (15, some 0), (16, some 0), (17, some 0), (18, some 0), (19, some 0)] (by kernel_rfl) (by kernel_rfl) (by kernel_rfl) (by kernel_rfl) (by kernel_rfl) (fun _ _ _ _ _ h => h) ⟨f0, f1, f4⟩ ?_
          simp only [List.map_cons, List.map_nil, List.getD_cons_succ, List.getD_cons_zero]
          (repeat (first | (refine qs_now (v := ?_) (by rfl) ?_ ?_; rotate_left 1; (· (intro w' hS; go_simp; (try (simp only [↓IntWalk.iteOmega]; go_simp)); (try simp (disch := omega) only [IntWalk.i64_in]); try with_reducible rfl)); simp only [Act.put, List.setIfInBounds_toArray, List.set_cons_zero, List.set_cons_succ]) | (refine qs_run (v := ?_) (by rfl) ?_ ?_; rotate_left 1; (· (intro j w' hS; go_simp; (try (simp only [↓IntWalk.iteOmega]; go_simp)); (try simp (disch := omega) only [IntWalk.i64_in]); try with_reducible rfl)); simp only [Act.put, List.setIfInBounds_toArray, List.set_cons_zero, List.set_cons_succ]) | (refine qs_skip (by rfl) ?_; simp only [Act.put, List.setIfInBounds_toArray, List.set_cons_zero, List.set_cons_succ])))
          refine qs_nil ?_
          have hdr7 := (Below.refl w3.heap.size w3).drew
          have H8 := Lib.hid (H7.out.below hdr7)
          have S8 := Lib.hid (S7.out.trans (StStep.of_below hdr7 hb7))
          clear H7 S7 hdr7 f0 f1 f4
          obtain ⟨A8, c8, A28, c28, b8, _, _⟩ := H8.out.parts
          have g2 := b8.cell (i := 2) (v := .slice A28 out.length c28) rfl
          have g3 := b8.cell (i := 3) (v := .int .i64 (most : Int)) rfl
          have g4 := b8.cell (i := 4) (v := .int .i64 4) rfl
          have hb8 := H8.out.2.2.1
          clear b8
          go_wp2
          refine wp_region_qs (fun _ w' => w'.cell? ⟨s, 2, none⟩ = some (.slice A28 out.length c28) ∧ w'.cell? ⟨s, 3, none⟩ = some (.int .i64 (most : Int)) ∧ w'.cell? ⟨s, 4, none⟩ = some (.int .i64 4)) [(0, some 0), (1, some 0), (2, some 0), (3, some 0), (4, some 0), (5, some 0), (6, some 0), (7, some 0), (8, some 0), (9, some 0), (10, some 0), (11, some 0), (12, some 0), (13, some 0), (14, some 0), (15, some 0), (16, some 0), (17, some 0), (18, some 0)] (by kernel_rfl) (by kernel_rfl) (by kernel_rfl) (by kernel_rfl) (by kernel_rfl) (fun _ _ _ _ _ h => h) ⟨g2, g3, g4⟩ ?_
          simp only [List.map_cons, List.map_nil, List.getD_cons_succ, List.getD_cons_zero]
          (repeat (first | (refine qs_now (v := ?_) (by rfl) ?_ ?_; rotate_left 1; (· (intro w' hS; go_simp; (try (simp only [↓IntWalk.iteOmega]; go_simp)); (try simp (disch := omega) only [IntWalk.i64_in]); try with_reducible rfl)); simp only [Act.put, List.setIfInBounds_toArray, List.set_cons_zero, List.set_cons_succ]) | (refine qs_run (v := ?_) (by rfl) ?_ ?_; rotate_left 1; (· (intro j w' hS; go_simp; (try (simp only [↓IntWalk.iteOmega]; go_simp)); (try simp (disch := omega) only [IntWalk.i64_in]); try with_reducible rfl)); simp only [Act.put, List.setIfInBounds_toArray, List.set_cons_zero, List.set_cons_succ]) | (refine qs_skip (by rfl) ?_; simp only [Act.put, List.setIfInBounds_toArray, List.set_cons_zero, List.set_cons_succ])))
          refine qs_nil ?_
          have hdr8 := (Below.refl w3.drew.heap.size w3.drew).drew
          have H9 := Lib.hid (H8.out.below hdr8)
          have S9 := Lib.hid (S8.out.trans (StStep.of_below hdr8 hb8))
          clear H8 S8 hdr8 g2 g3 g4
          go_wp2
          go_loopg [4] 0 (RDead base s bs out p3 (most : Int) 4 w)
          case atStart => exact ⟨rfl, H9.out, S9.out⟩
          case round =>
            clear H9 S9
            obtain ⟨rfl, hs9, st9⟩ := hrel
            have H9 := Lib.hid hs9
            have S9 := Lib.hid st9
            have c49 := hs9.c4
            clear hs9 st9
            by_cases hn0 : 0 < n
            · have hn0I : (0 : Int) < n := by omega
              go_wp2
              go_end0
              exact ⟨p3, out, 4, rfl, H9.out, S9.out, ho, by rw [HTb.out]; rfl⟩
            · have hn0I : ¬ (0 : Int) < n := by omega
              go_wp2
              go_end0
              exact ⟨p3, out, 4, rfl, H9.out, S9.out, ho, by rw [HTb.out]; rfl⟩
        · have HT3 := Lib.hid hT3
          clear hT3 T3
          obtain ⟨A7, c7, A27, c27, b7, o7, l7⟩ := H3.out.parts
          have f0 := b7.cell (i := 0) (v := .slice A7 (8 * bs.length) c7) rfl
          have f1 := b7.cell (i := 1) (v := .int .i64 (p3 : Int)) rfl
          have f4 := b7.cell (i := 4) (v := .int .i64 0) rfl
          have g2 : w3.drew.cell? ⟨s, 2, none⟩ = some (.slice A27 out.length c27) := b7.cell (i := 2) (v := .slice A27 out.length c27) rfl
          have g3 : w3.drew.cell? ⟨s, 3, none⟩ = some (.int .i64 (most : Int)) := b7.cell (i := 3) (v := .int .i64 (most : Int)) rfl
          have g4 : w3.drew.cell? ⟨s, 4, none⟩ = some (.int .i64 0) := f4
          clear b7 o7 l7
          have hdr7 := (Below.refl w3.heap.size w3).drew
          have H4 := Lib.hid (H3.out.below hdr7)
          have S4 := Lib.hid (S3.out.trans (StStep.of_below hdr7 h33))
          clear H3 S3 hdr7
          by_cases hleft : 8 * bs.length < p3 + 8 * n
          · have dleft : decide (8 * (bs.length : Int) < (p3 : Int) + 8 * n) = true := by simp; omega
            have HTb := Lib.hid (show T = .bad false by rw [HT3.out, if_pos (.inr hleft)])
            clear HT3
            go_wp2
            refine wp_region_qs (fun _ w' => w'.cell? ⟨s, 0, none⟩ = some (.slice A7 (8 * bs.length) c7) ∧ w'.cell? ⟨s, 1, none⟩ = some (.int .i64 (p3 : Int)) ∧ w'.cell? ⟨s, 4, none⟩ = some (.int .i64 0)) [(0, some 0), (1, some 0), (2, some 0), (3, some 0), (4, some 0), (5, some 0), (6, some 0), (7, some 0), (8, some 0), (9, some 0), (10, some 0), (11, some 0), (12, some 0), (13, some 0), (14, some 0), (15, some 0), (16, some 0), (17, some 0), (18, some 0), (19, some 0)] (by kernel_rfl) (by kernel_rfl) (by kernel_rfl) (by kernel_rfl) (by kernel_rfl) (fun _ _ _ _ _ h => h) ⟨f0, f1, f4⟩ ?_
            simp only [List.map_cons, List.map_nil, List.getD_cons_succ, List.getD_cons_zero]
            (repeat (first | (refine qs_now (v := ?_) (by rfl) ?_ ?_; rotate_left 1; (· (intro w' hS; go_simp; (try (simp only [↓IntWalk.iteOmega]; go_simp)); (try simp (disch := omega) only [IntWalk.i64_in]); try with_reducible rfl)); simp only [Act.put, List.setIfInBounds_toArray, List.set_cons_zero, List.set_cons_succ]) | (refine qs_run (v := ?_) (by rfl) ?_ ?_; rotate_left 1; (· (intro j w' hS; go_simp; (try (simp only [↓IntWalk.iteOmega]; go_simp)); (try simp (disch := omega) only [IntWalk.i64_in]); try with_reducible rfl)); simp only [Act.put, List.setIfInBounds_toArray, List.set_cons_zero, List.set_cons_succ]) | (refine qs_skip (by rfl) ?_; simp only [Act.put, List.setIfInBounds_toArray, List.set_cons_zero, List.set_cons_succ])))
            refine qs_nil ?_
            go_wp2_with fail
            refine (rfail_any base s bs p3 out (most : Int) 0 4 w3.drew H4.out).mono ?_
            rintro ev w5 ⟨rfl, hs5, st5, _⟩
            rw [if_pos rfl] at hs5
            have H8 := Lib.hid hs5
            have S8 := Lib.hid (S4.out.trans st5)
            clear hs5 st5 H4 S4 f0 f1 f4 g2 g3 g4
            obtain ⟨A8, c8, A28, c28, b8, _, _⟩ := H8.out.parts
            have g2 := b8.cell (i := 2) (v := .slice A28 out.length c28) rfl
            have g3 := b8.cell (i := 3) (v := .int .i64 (most : Int)) rfl
            have g4 := b8.cell (i := 4) (v := .int .i64 4) rfl
            have hb8 := H8.out.2.2.1
            clear b8
            go_wp2
            refine wp_region_qs (fun _ w' => w'.cell? ⟨s, 2, none⟩ = some (.slice A28 out.length c28) ∧ w'.cell? ⟨s, 3, none⟩ = some (.int .i64 (most : Int)) ∧ w'.cell? ⟨s, 4, none⟩ = some (.int .i64 4)) [(0, some 0), (1, some 0), (2, some 0), (3, some 0), (4, some 0), (5, some 0), (6, some 0), (7, some 0), (8, some 0), (9, some 0), (10, some 0), (11, some 0), (12, some 0), (13, some 0), (14, some 0), (15, some 0), (16, some 0), (17, some 0), (18, some 0)] (by kernel_rfl) (by kernel_rfl) (by kernel_rfl) (by kernel_rfl) (by kernel_rfl) (fun _ _ _ _ _ h => h) ⟨g2, g3, g4⟩ ?_
            simp only [List.map_cons, List.map_nil, List.getD_cons_succ, List.getD_cons_zero]
            (repeat (first | (refine qs_now (v := ?_) (by rfl) ?_ ?_; rotate_left 1; (· (intro w' hS; go_simp; (try (simp only [↓IntWalk.iteOmega]; go_simp)); (try simp (disch := omega) only [IntWalk.i64_in]); try with_reducible rfl)); simp only [Act.put, List.setIfInBounds_toArray, List.set_cons_zero, List.set_cons_succ]) | (refine qs_run (v := ?_) (by rfl) ?_ ?_; rotate_left 1; (· (intro j w' hS; go_simp; (try (simp only [↓IntWalk.iteOmega]; go_simp)); (try simp (disch := omega) only [IntWalk.i64_in]); try with_reducible rfl)); simp only [Act.put, List.setIfInBounds_toArray, List.set_cons_zero, List.set_cons_succ]) | (refine qs_skip (by rfl) ?_; simp only [Act.put, List.setIfInBounds_toArray, List.set_cons_zero, List.set_cons_succ])))
            refine qs_nil ?_
            have hdr8 := (Below.refl w5.heap.size w5).drew
            have H9 := Lib.hid (H8.out.below hdr8)
            have S9 := Lib.hid (S8.out.trans (StStep.of_below hdr8 hb8))
            clear H8 S8 hdr8 g2 g3 g4
            go_wp2
            go_loopg [4] 0 (RDead base s bs out p3 (most : Int) 4 w)
            case atStart => exact ⟨rfl, H9.out, S9.out⟩
            case round =>
              clear H9 S9
              obtain ⟨rfl, hs9, st9⟩ := hrel
              have H9 := Lib.hid hs9
              have S9 := Lib.hid st9
              have c49 := hs9.c4
              clear hs9 st9
              by_cases hn0 : 0 < n
              · have hn0I : (0 : Int) < n := by omega
                go_wp2
                go_end0
                exact ⟨p3, out, 4, rfl, H9.out, S9.out, ho, by rw [HTb.out]; rfl⟩
              · have hn0I : ¬ (0 : Int) < n := by omega
                go_wp2
                go_end0
                exact ⟨p3, out, 4, rfl, H9.out, S9.out, ho, by rw [HTb.out]; rfl⟩
          · have dleft : decide (8 * (bs.length : Int) < (p3 : Int) + 8 * n) = false := by simp; omega
            rw [if_neg (by omega)] at HT3
            go_wp2
            refine wp_region_qs (fun _ w' => w'.cell? ⟨s, 0, none⟩ = some (.slice A7 (8 * bs.length) c7) ∧ w'.cell? ⟨s, 1, none⟩ = some (.int .i64 (p3 : Int)) ∧ w'.cell? ⟨s, 4, none⟩ = some (.int .i64 0)) [(0, some 0), (1, some 0), (2, some 0), (3, some 0), (4, some 0), (5, some 0), (6, some 0), (7, some 0), (8, some 0), (9, some 0), (10, some 0), (11, some 0), (12, some 0), (13, some 0), (14, some 0), (15, some 0), (16, some 0), (17, some 0), (18, some 0), (19, some 0)] (by kernel_rfl) (by kernel_rfl) (by kernel_rfl) (by kernel_rfl) (by kernel_rfl) (fun _ _ _ _ _ h => h) ⟨f0, f1, f4⟩ ?_
            simp only [List.map_cons, List.map_nil, List.getD_cons_succ, List.getD_cons_zero]
            (repeat (first | (refine qs_now (v := ?_) (by rfl) ?_ ?_; rotate_left 1; (· (intro w' hS; go_simp; (try (simp only [↓IntWalk.iteOmega]; go_simp)); (try simp (disch := omega) only [IntWalk.i64_in]); try with_reducible rfl)); simp only [Act.put, List.setIfInBounds_toArray, List.set_cons_zero, List.set_cons_succ]) | (refine qs_run (v := ?_) (by rfl) ?_ ?_; rotate_left 1; (· (intro j w' hS; go_simp; (try (simp only [↓IntWalk.iteOmega]; go_simp)); (try simp (disch := omega) only [IntWalk.i64_in]); try with_reducible rfl)); simp only [Act.put, List.setIfInBounds_toArray, List.set_cons_zero, List.set_cons_succ]) | (refine qs_skip (by rfl) ?_; simp only [Act.put, List.setIfInBounds_toArray, List.set_cons_zero, List.set_cons_succ])))
            refine qs_nil ?_
            clear f0 f1 f4
            have hdr8 := (Below.refl w3.drew.heap.size w3.drew).drew
            have H5 := Lib.hid (H4.out.below hdr8)
            have S5 := Lib.hid (S4.out.trans (StStep.of_below hdr8 h33))
            clear H4 S4 hdr8
            by_cases hlong : most < out.length + n
            · have dlong : decide ((most : Int) < (out.length : Int) + n) = true := by simp; omega
              have HTb := Lib.hid (show T = .bad true by rw [HT3.out, if_pos hlong])
              clear HT3
              go_wp2
              refine wp_region_qs (fun _ w' => w'.cell? ⟨s, 2, none⟩ = some (.slice A27 out.length c27) ∧ w'.cell? ⟨s, 3, none⟩ = some (.int .i64 (most : Int)) ∧ w'.cell? ⟨s, 4, none⟩ = some (.int .i64 0)) [(0, some 0), (1, some 0), (2, some 0), (3, some 0), (4, some 0), (5, some 0), (6, some 0), (7, some 0), (8, some 0), (9, some 0), (10, some 0), (11, some 0), (12, some 0), (13, some 0), (14, some 0), (15, some 0), (16, some 0), (17, some 0), (18, some 0)] (by kernel_rfl) (by kernel_rfl) (by kernel_rfl) (by kernel_rfl) (by kernel_rfl) (fun _ _ _ _ _ h => h) ⟨g2, g3, g4⟩ ?_
              simp only [List.map_cons, List.map_nil, List.getD_cons_succ, List.getD_cons_zero]
              (repeat (first | (refine qs_now (v := ?_) (by rfl) ?_ ?_; rotate_left 1; (· (intro w' hS; go_simp; (try (simp only [↓IntWalk.iteOmega]; go_simp)); (try simp (disch := omega) only [IntWalk.i64_in]); try with_reducible rfl)); simp only [Act.put, List.setIfInBounds_toArray, List.set_cons_zero, List.set_cons_succ]) | (refine qs_run (v := ?_) (by rfl) ?_ ?_; rotate_left 1; (· (intro j w' hS; go_simp; (try (simp only [↓IntWalk.iteOmega]; go_simp)); (try simp (disch := omega) only [IntWalk.i64_in]); try with_reducible rfl)); simp only [Act.put, List.setIfInBounds_toArray, List.set_cons_zero, List.set_cons_succ]) | (refine qs_skip (by rfl) ?_; simp only [Act.put, List.setIfInBounds_toArray, List.set_cons_zero, List.set_cons_succ])))
              refine qs_nil ?_
              go_wp2_with fail
              refine (rfail_any base s bs p3 out (most : Int) 0 3 w3.drew.drew H5.out).mono ?_
              rintro ev w5 ⟨rfl, hs5, st5, _⟩
              rw [if_pos rfl] at hs5
              have H9 := Lib.hid hs5
              have S9 := Lib.hid (S5.out.trans st5)
              clear hs5 st5 H5 S5 g2 g3 g4
              go_wp2
              go_loopg [4] 0 (RDead base s bs out p3 (most : Int) 3 w)
              case atStart => exact ⟨rfl, H9.out, S9.out⟩
              case round =>
                clear H9 S9
                obtain ⟨rfl, hs9, st9⟩ := hrel
                have H9 := Lib.hid hs9
                have S9 := Lib.hid st9
                have c49 := hs9.c4
                clear hs9 st9
                by_cases hn0 : 0 < n
                · have hn0I : (0 : Int) < n := by omega
                  go_wp2
                  go_end0
                  exact ⟨p3, out, 3, rfl, H9.out, S9.out, ho, by rw [HTb.out]; rfl⟩
                · have hn0I : ¬ (0 : Int) < n := by omega
                  go_wp2
                  go_end0
                  exact ⟨p3, out, 3, rfl, H9.out, S9.out, ho, by rw [HTb.out]; rfl⟩
            · have dlong : decide ((most : Int) < (out.length : Int) + n) = false := by simp; omega
              rw [if_neg hlong] at HT3
              go_wp2
              refine wp_region_qs (fun _ w' => w'.cell? ⟨s, 2, none⟩ = some (.slice A27 out.length c27) ∧ w'.cell? ⟨s, 3, none⟩ = some (.int .i64 (most : Int)) ∧ w'.cell? ⟨s, 4, none⟩ = some (.int .i64 0)) [(0, some 0), (1, some 0), (2, some 0), (3, some 0), (4, some 0), (5, some 0), (6, some 0), (7, some 0), (8, some 0), (9, some 0), (10, some 0), (11, some 0), (12, some 0), (13, some 0), (14, some 0), (15, some 0), (16, some 0), (17, some 0), (18, some 0)] (by kernel_rfl) (by kernel_rfl) (by kernel_rfl) (by kernel_rfl) (by kernel_rfl) (fun _ _ _ _ _ h => h) ⟨g2, g3, g4⟩ ?_
              simp only [List.map_cons, List.map_nil, List.getD_cons_succ, List.getD_cons_zero]
              (repeat (first | (refine qs_now (v := ?_) (by rfl) ?_ ?_; rotate_left 1; (· (intro w' hS; go_simp; (try (simp only [↓IntWalk.iteOmega]; go_simp)); (try simp (disch := omega) only [IntWalk.i64_in]); try with_reducible rfl)); simp only [Act.put, List.setIfInBounds_toArray, List.set_cons_zero, List.set_cons_succ]) | (refine qs_run (v := ?_) (by rfl) ?_ ?_; rotate_left 1; (· (intro j w' hS; go_simp; (try (simp only [↓IntWalk.iteOmega]; go_simp)); (try simp (disch := omega) only [IntWalk.i64_in]); try with_reducible rfl)); simp only [Act.put, List.setIfInBounds_toArray, List.set_cons_zero, List.set_cons_succ]) | (refine qs_skip (by rfl) ?_; simp only [Act.put, List.setIfInBounds_toArray, List.set_cons_zero, List.set_cons_succ])))
              refine qs_nil ?_
              clear g2 g3 g4
              go_wp2
              go_loopg [4] n (RSto base s bs out most p3 n w)
              case atStart => exact ⟨0, by omega, rfl, by simpa [bytesR] using H5.out, S5.out⟩
              case round =>
                clear H5 S5
                obtain ⟨i, hi, rfl, hs6, st6⟩ := hrel
                have H6 := Lib.hid hs6
                have S6 := Lib.hid st6
                have g4 := hs6.c4
                have h36 := hs6.2.2.1
                clear hs6 st6
                by_cases hin : i < n
                · have hinI : (i : Int) < n := by omega
                  obtain ⟨Ax, cx, Ay, cy, bx, ox, lx⟩ := H6.out.parts
                  have hol : (out ++ bytesR (bitsOf bs) p3 i).length = out.length + i := by rw [List.length_append, bytesR_len]
                  have HBs := Lib.hid (bytesR_succ (bitsOf bs) p3 i)
                  generalize ho1 : out ++ bytesR (bitsOf bs) p3 i = o1 at *
                  have HO1 := Lib.hid ho1
                  have hlo : o1.length ≤ 65536 := by omega
                  have x2 := bx.cell (i := 2) (v := .slice Ay o1.length cy) rfl
                  clear ho1 hol bx ox lx
                  go_wp2
                  refine wp_region_qs (fun j w' => j ≤ 2 → w'.cell? ⟨s, 2, none⟩ = some (.slice Ay o1.length cy)) [(0, some 3), (1, some 3), (2, some 3), (3, some 3), (4, some 2), (5, some 2), (6, none), (7, some 2), (8, none), (9, none), (10, some 4), (11, some 3), (12, none)] (by kernel_rfl) (by kernel_rfl) (by kernel_rfl) (by kernel_rfl) (by kernel_rfl) (fun _ _ _ _ _ h => h) (fun _ => x2) ?_
                  simp only [List.map_cons, List.map_nil, List.getD_cons_succ, List.getD_cons_zero]
                  (repeat (first | (refine qs_now (v := ?_) (by rfl) ?_ ?_; rotate_left 1; (· (intro w' hS; go_simp; (try (simp only [↓IntWalk.iteOmega]; go_simp)); (try simp (disch := omega) only [IntWalk.i64_in]); try with_reducible rfl)); simp only [Act.put, List.setIfInBounds_toArray, List.set_cons_zero, List.set_cons_succ]) | (refine qs_run (v := ?_) (by rfl) ?_ ?_; rotate_left 1; (· (intro j w' hS; go_simp; (try (simp only [↓IntWalk.iteOmega]; go_simp)); (try simp (disch := omega) only [IntWalk.i64_in]); try with_reducible rfl)); simp only [Act.put, List.setIfInBounds_toArray, List.set_cons_zero, List.set_cons_succ]) | (refine qs_mid (v := ?_) (by rfl) ?_ ?_; rotate_left 1; (· (intro j w' hj1 hj2 hS; go_simp; (try (simp only [↓IntWalk.iteOmega]; go_simp)); (try simp (disch := omega) only [IntWalk.i64_in]); try with_reducible rfl)); simp only [Act.put, List.setIfInBounds_toArray, List.set_cons_zero, List.set_cons_succ]) | (refine qs_skip (by rfl) ?_; simp only [Act.put, List.setIfInBounds_toArray, List.set_cons_zero, List.set_cons_succ])))
                  refine qs_act ?_
                  go_wp2_with fail
                  have hdr6 := (Below.refl wr.heap.size wr).drew
                  refine (rnumber_any base s bs (p3 + 8 * i) o1 (most : Int) 0 8 wr.drew (H6.out.below hdr6) HBy.out hl (by omega)).mono ?_
                  rintro ev w7 ⟨x, p7, e7, rfl, hx, hs7, st7, tk7, k7⟩
                  have hnum := num_yes (bt := bitsOf bs) (p := p3 + 8 * i) (n := 8) (by rw [bitsOf_len]; omega)
                  have tk := tk7.resolve_right (fun h => h.1 rfl)
                  rw [hnum] at tk
                  obtain ⟨_, hx7, hp7, he7⟩ := tk
                  rw [← hx7] at HBs
                  subst hp7
                  subst he7
                  have c7' : w7.cell? ⟨s, 2, none⟩ = some (.slice Ay o1.length cy) := k7.trans x2
                  have H7 := Lib.hid hs7
                  have S7 := Lib.hid (S6.out.trans ((StStep.of_below hdr6 h36).trans st7))
                  clear hnum hx7 hs7 st7 k7 H6 S6 tk7 hdr6
                  have hx256 : x < 256 := hx
                  have hxI : (x : Int) < 256 := by omega
                  go_wp2
                  refine ⟨fun _ => c7', ?_⟩
                  obtain ⟨Aa, ca, Ab, cb, ba, oa, la⟩ := H7.out.parts
                  obtain ⟨rfl, rfl⟩ : Ab = Ay ∧ cb = cy := by
                    have := ba.cell (i := 2) rfl
                    rw [c7'] at this
                    injection this with this
                    injection this with a b c
                    exact ⟨a.symm, c.symm⟩
                  have BA := Lib.hid ba
                  have OA := Lib.hid oa
                  clear ba oa la
                  (repeat (first | (refine qs_now (v := ?_) (by rfl) ?_ ?_; rotate_left 1; (· (intro w' hS; go_simp; (try (simp only [↓IntWalk.iteOmega]; go_simp)); (try simp (disch := omega) only [IntWalk.i64_in]); try with_reducible rfl)); simp only [Act.put, List.setIfInBounds_toArray, List.set_cons_zero, List.set_cons_succ]) | (refine qs_run (v := ?_) (by rfl) ?_ ?_; rotate_left 1; (· (intro j w' hS; go_simp; (try (simp only [↓IntWalk.iteOmega]; go_simp)); (try simp (disch := omega) only [IntWalk.i64_in]); try with_reducible rfl)); simp only [Act.put, List.setIfInBounds_toArray, List.set_cons_zero, List.set_cons_succ]) | (refine qs_mid (v := ?_) (by rfl) ?_ ?_; rotate_left 1; (· (intro j w' hj1 hj2 hS; go_simp; (try (simp only [↓IntWalk.iteOmega]; go_simp)); (try simp (disch := omega) only [IntWalk.i64_in]); try with_reducible rfl)); simp only [Act.put, List.setIfInBounds_toArray, List.set_cons_zero, List.set_cons_succ]) | (refine qs_skip (by rfl) ?_; simp only [Act.put, List.setIfInBounds_toArray, List.set_cons_zero, List.set_cons_succ])))
                  refine qs_act ?_
                  go_wp2
                  obtain ⟨w8, hw8⟩ : ∃ w8, w8 = w7.alloc (.cells #[.int .u8 (x : Int)] 5) := ⟨_, rfl⟩
                  rw [← hw8]
                  have L8 := Lib.hid (show Below w7.heap.size w7 w8 by rw [hw8]; exact (Below.refl _ _).alloc (Nat.le_refl _) _)
                  have S8 := Lib.hid (show Src w8 1 (.slice (some ⟨w7.heap.size, 0, none⟩) 1 1) 1 [.int .u8 (x : Int)] by rw [hw8]; exact src_u8 _ _ _)
                  clear hw8
                  have O8 := Lib.hid (own_below OA.out L8.out)
                  refine ⟨fun _ => (BA.out.below L8.out BA.out.lt).cell (i := 2) rfl, ?_⟩
                  (repeat (first | (refine qs_now (v := ?_) (by rfl) ?_ ?_; rotate_left 1; (· (intro w' hS; go_simp; (try (simp only [↓IntWalk.iteOmega]; go_simp)); (try simp (disch := omega) only [IntWalk.i64_in]); try with_reducible rfl)); simp only [Act.put, List.setIfInBounds_toArray, List.set_cons_zero, List.set_cons_succ]) | (refine qs_run (v := ?_) (by rfl) ?_ ?_; rotate_left 1; (· (intro j w' hS; go_simp; (try (simp only [↓IntWalk.iteOmega]; go_simp)); (try simp (disch := omega) only [IntWalk.i64_in]); try with_reducible rfl)); simp only [Act.put, List.setIfInBounds_toArray, List.set_cons_zero, List.set_cons_succ]) | (refine qs_mid (v := ?_) (by rfl) ?_ ?_; rotate_left 1; (· (intro j w' hj1 hj2 hS; go_simp; (try (simp only [↓IntWalk.iteOmega]; go_simp)); (try simp (disch := omega) only [IntWalk.i64_in]); try with_reducible rfl)); simp only [Act.put, List.setIfInBounds_toArray, List.set_cons_zero, List.set_cons_succ]) | (refine qs_skip (by rfl) ?_; simp only [Act.put, List.setIfInBounds_toArray, List.set_cons_zero, List.set_cons_succ])))
                  refine qs_act ?_
                  refine app_src rfl (.tmp 87) (.tmp 91) 22 rfl 0 5 _ 1 1 Tryd.underlying22 infoByte rfl (by omega) _ o1.length _ rfl O8.out _ 1 _ rfl S8.out (by simp [Value.oneCell']) (by omega) (by omega) (Nat.zero_le _) ?_
                  intro v9 w9 ho9 hg9 hor9
                  obtain ⟨A9', c9, hv9, _⟩ := own_slice ho9
                  subst hv9
                  have hP := ref_push (v9 := .slice A9' (o1.length + 1) c9) (x := (x : Int)) H7.out BA.out L8.out hg9 hor9 (by simpa using ho9) (by omega)
                  have f9 := hP.2.2.free 2
                  have d9 := hP.2.2.cell (i := 2) rfl
                  have HP := Lib.hid hP
                  clear ho9 hg9 hor9 hP
                  refine wpList_nil ?_
                  refine ⟨fun h => absurd h (by omega), ?_⟩
                  (repeat (first | (refine qs_now (v := ?_) (by rfl) ?_ ?_; rotate_left 1; (· (intro w' hS; go_simp; (try (simp only [↓IntWalk.iteOmega]; go_simp)); (try simp (disch := omega) only [IntWalk.i64_in]); try with_reducible rfl)); simp only [Act.put, List.setIfInBounds_toArray, List.set_cons_zero, List.set_cons_succ]) | (refine qs_run (v := ?_) (by rfl) ?_ ?_; rotate_left 1; (· (intro j w' hS; go_simp; (try (simp only [↓IntWalk.iteOmega]; go_simp)); (try simp (disch := omega) only [IntWalk.i64_in]); try with_reducible rfl)); simp only [Act.put, List.setIfInBounds_toArray, List.set_cons_zero, List.set_cons_succ]) | (refine qs_mid (v := ?_) (by rfl) ?_ ?_; rotate_left 1; (· (intro j w' hj1 hj2 hS; go_simp; (try (simp only [↓IntWalk.iteOmega]; go_simp)); (try simp (disch := omega) only [IntWalk.i64_in]); try with_reducible rfl)); simp only [Act.put, List.setIfInBounds_toArray, List.set_cons_zero, List.set_cons_succ]) | (refine qs_skip (by rfl) ?_; simp only [Act.put, List.setIfInBounds_toArray, List.set_cons_zero, List.set_cons_succ])))
                  refine qs_act ?_
                  go_wp2
                  refine ⟨fun h => absurd h (by omega), ?_⟩
                  refine qs_nil ?_
                  go_wp2
                  go_roundg (gk - 1)
                  case measure => omega
                  case rel =>
                    refine ⟨i + 1, by omega, by go_num, ?_, S7.out.trans HP.out.2.1⟩
                    rw [HBs.out, ← List.append_assoc, HO1.out, show p3 + 8 * (i + 1) = p3 + 8 * i + 8 from by omega]
                    exact HP.out.1
                · obtain rfl : i = n := by omega
                  go_wp2
                  go_end0
                  exact ⟨_, _, 0, rfl, H6.out, S6.out, by rw [List.length_append, bytesR_len]; omega, by rw [HT3.out]; exact ⟨rfl, rfl, rfl⟩⟩
      · have dsum : ((n : Int) + m != 65535) = true := by simp; omega
        have HE := Lib.hid (show (if e3 = 0 then (4 : Int) else e3) = 4 ∧ T = .bad false by
          rcases T3.out with ⟨a, b⟩ | ⟨a, b⟩
          · rw [a]; exact ⟨rfl, b⟩
          · rw [if_pos (.inl hsum)] at b
            rw [if_pos a]; exact ⟨rfl, b⟩)
        clear T3
        go_wp2_with fail
        refine (rfail_any base s bs p3 out (most : Int) e3 4 w3 H3.out).mono ?_
        rintro ev w4 ⟨rfl, hs4, st4, _⟩
        rw [HE.out.1] at hs4
        have HTb := Lib.hid HE.out.2
        have H7 := Lib.hid hs4
        have S7 := Lib.hid (S3.out.trans st4)
        clear hs4 st4 H3 S3 HE
        obtain ⟨A7, c7, A27, c27, b7, _, _⟩ := H7.out.parts
        have f0 := b7.cell (i := 0) (v := .slice A7 (8 * bs.length) c7) rfl
        have f1 := b7.cell (i := 1) (v := .int .i64 (p3 : Int)) rfl
        have f4 := b7.cell (i := 4) (v := .int .i64 4) rfl
        have hb7 := H7.out.2.2.1
        clear b7
        go_wp2
        refine wp_region_qs (fun _ w' => w'.cell? ⟨s, 0, none⟩ = some (.slice A7 (8 * bs.length) c7) ∧ w'.cell? ⟨s, 1, none⟩ = some (.int .i64 (p3 : Int)) ∧ w'.cell? ⟨s, 4, none⟩ = some (.int .i64 4)) [(0, some 0), (1, some 0), (2, some 0), (3, some 0), (4, some 0), (5, some 0), (6, some 0), (7, some 0), (8, some 0), (9, some 0), (10, some 0), (11, some 0), (12, some 0), (13, some 0), (14, some 0), (15, some 0), (16, some 0), (17, some 0), (18, some 0), (19, some 0)] (by kernel_rfl) (by kernel_rfl) (by kernel_rfl) (by kernel_rfl) (by kernel_rfl) (fun _ _ _ _ _ h => h) ⟨f0, f1, f4⟩ ?_
        simp only [List.map_cons, List.map_nil, List.getD_cons_succ, List.getD_cons_zero]
        (repeat (first | (refine qs_now (v := ?_) (by rfl) ?_ ?_; rotate_left 1; (· (intro w' hS; go_simp; (try (simp only [↓IntWalk.iteOmega]; go_simp)); (try simp (disch := omega) only [IntWalk.i64_in]); try with_reducible rfl)); simp only [Act.put, List.setIfInBounds_toArray, List.set_cons_zero, List.set_cons_succ]) | (refine qs_run (v := ?_) (by rfl) ?_ ?_; rotate_left 1; (· (intro j w' hS; go_simp; (try (simp only [↓IntWalk.iteOmega]; go_simp)); (try simp (disch := omega) only [IntWalk.i64_in]); try with_reducible rfl)); simp only [Act.put, List.setIfInBounds_toArray, List.set_cons_zero, List.set_cons_succ]) | (refine qs_skip (by rfl) ?_; simp only [Act.put, List.setIfInBounds_toArray, List.set_cons_zero, List.set_cons_succ])))
        refine qs_nil ?_
        have hdr7 := (Below.refl w4.heap.size w4).drew
        have H8 := Lib.hid (H7.out.below hdr7)
        have S8 := Lib.hid (S7.out.trans (StStep.of_below hdr7 hb7))
        clear H7 S7 hdr7 f0 f1 f4
        obtain ⟨A8, c8, A28, c28, b8, _, _⟩ := H8.out.parts
        have g2 := b8.cell (i := 2) (v := .slice A28 out.length c28) rfl
        have g3 := b8.cell (i := 3) (v := .int .i64 (most : Int)) rfl
        have g4 := b8.cell (i := 4) (v := .int .i64 4) rfl
        have hb8 := H8.out.2.2.1
        clear b8
        go_wp2
        refine wp_region_qs (fun _ w' => w'.cell? ⟨s, 2, none⟩ = some (.slice A28 out.length c28) ∧ w'.cell? ⟨s, 3, none⟩ = some (.int .i64 (most : Int)) ∧ w'.cell? ⟨s, 4, none⟩ = some (.int .i64 4)) [(0, some 0), (1, some 0), (2, some 0), (3, some 0), (4, some 0), (5, some 0), (6, some 0), (7, some 0), (8, some 0), (9, some 0), (10, some 0), (11, some 0), (12, some 0), (13, some 0), (14, some 0), (15, some 0), (16, some 0), (17, some 0), (18, some 0)] (by kernel_rfl) (by kernel_rfl) (by kernel_rfl) (by kernel_rfl) (by kernel_rfl) (fun _ _ _ _ _ h => h) ⟨g2, g3, g4⟩ ?_
        simp only [List.map_cons, List.map_nil, List.getD_cons_succ, List.getD_cons_zero]
        (repeat (first | (refine qs_now (v := ?_) (by rfl) ?_ ?_; rotate_left 1; (· (intro w' hS; go_simp; (try (simp only [↓IntWalk.iteOmega]; go_simp)); (try simp (disch := omega) only [IntWalk.i64_in]); try with_reducible rfl)); simp only [Act.put, List.setIfInBounds_toArray, List.set_cons_zero, List.set_cons_succ]) | (refine qs_run (v := ?_) (by rfl) ?_ ?_; rotate_left 1; (· (intro j w' hS; go_simp; (try (simp only [↓IntWalk.iteOmega]; go_simp)); (try simp (disch := omega) only [IntWalk.i64_in]); try with_reducible rfl)); simp only [Act.put, List.setIfInBounds_toArray, List.set_cons_zero, List.set_cons_succ]) | (refine qs_skip (by rfl) ?_; simp only [Act.put, List.setIfInBounds_toArray, List.set_cons_zero, List.set_cons_succ])))
        refine qs_nil ?_
        have hdr8 := (Below.refl w4.drew.heap.size w4.drew).drew
        have H9 := Lib.hid (H8.out.below hdr8)
        have S9 := Lib.hid (S8.out.trans (StStep.of_below hdr8 hb8))
        clear H8 S8 hdr8 g2 g3 g4
        go_wp2
        go_loopg [4] 0 (RDead base s bs out p3 (most : Int) 4 w)
        case atStart => exact ⟨rfl, H9.out, S9.out⟩
        case round =>
          clear H9 S9
          obtain ⟨rfl, hs9, st9⟩ := hrel
          have H9 := Lib.hid hs9
          have S9 := Lib.hid st9
          have c49 := hs9.c4
          clear hs9 st9
          by_cases hn0 : 0 < n
          · have hn0I : (0 : Int) < n := by omega
            go_wp2
            go_end0
            exact ⟨p3, out, 4, rfl, H9.out, S9.out, ho, by rw [HTb.out]; rfl⟩
          · have hn0I : ¬ (0 : Int) < n := by omega
            go_wp2
            go_end0
            exact ⟨p3, out, 4, rfl, H9.out, S9.out, ho, by rw [HTb.out]; rfl⟩
    · have dq : ((q : Int) % 8 != 0) = true := by simp; omega
      have hq4 : q < alignR p := by
        have := HA8.out q hq1 (by omega)
        rcases Nat.lt_or_ge q (alignR p) with h | h
        · exact h
        · exfalso
          have e : q = alignR p := by omega
          apply hq8
          rw [e]
          unfold alignR
          omega
      go_wp2
      go_roundg (gk - 1)
      case measure => omega
      case rel =>
        have G := grown_put wr ⟨s, 1, none⟩ (.int .i64 ((q : Int) + 1))
        have ht := H.out.turn (p' := q + 1) B0.out G (by have := B0.out.put 1 (.int .i64 ((q : Int) + 1)); simpa using this) (by omega) O0.out LO.out hBo
        exact ⟨q + 1, by omega, by omega, ht.1, S.out.trans ht.2⟩
end Go.Proofs.YtacidmamfkfipaaDoor
