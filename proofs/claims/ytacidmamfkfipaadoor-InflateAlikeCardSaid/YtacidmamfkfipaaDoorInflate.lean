/-
  inflate.Inflate, walked.
-/
import Derived.Test.YtacidmamfkfipaaDoorDynamic
import Derived.Test.YtacidmamfkfipaaDoorInfSpec
namespace Go.Proofs.YtacidmamfkfipaaDoor
open Go.RowKit
set_option linter.unusedVariables false

def NumNo (base s r : Nat) (bs : List Int) (p : Nat) (out : List Int) (most e : Int) (w : World) (ev : Ending) (w' : World) : Prop :=
  ev = .returned (.int .i64 0) ∧ StrOk w' base s r bs p out most (if e = 0 then 4 else e) ∧ StStep w w' base s r
set_option maxHeartbeats 800000 in
theorem number_no (base s r : Nat) (bs : List Int) (p : Nat) (out : List Int) (most e : Int) (n : Nat) (w : World) (h : StrOk w base s r bs p out most e) (hB : Bytes bs) (hl : bs.length ≤ 1000000000) (hn : n ≤ 32) (hno : 8 * bs.length < p + n) :
    Calls Tryd.prog 27 #[.pointer (some ⟨s, 0, none⟩), .int .i64 (n : Int)] w (NumNo base s r bs p out most e w) := by
  have H := Lib.hid h
  obtain ⟨h1, h2, _, _, h5, h6, v, h7, h8, h9⟩ := h
  have c0 := h7.cell (i := 0) (v := .pointer (some ⟨r, 0, none⟩)) rfl
  have HRd := Lib.hid h1
  have HBy := Lib.hid hB
  clear h1 h7 h8 h9 hB
  go_enter Tryd.func27, Tryd.ntmps27
  go_wp2_with fail
  refine (get_any bs r p n w HRd.out HBy.out hl h2 hn).mono ?_
  rintro ev w1 (⟨hlt, rfl, hr1, hg1⟩ | ⟨hle, rfl, hr1, hg1⟩)
  · have H1 := Lib.hid (H.out.read hr1 h2 hg1)
    have S1 := Lib.hid (StStep.of_r (s := s) hg1 h5)
    clear hr1 hg1 c0
    go_wp2_with (go_at_call 32; refine (fail_any base s r bs p out most e 4 w1 H1.out).mono ?_; rintro ev w2 ⟨rfl, h2', s2, k2⟩; have H2 := Lib.hid h2'; have S2 := Lib.hid (S1.out.trans s2); clear h2' s2 k2)
    go_ret
    exact ⟨rfl, H2.out, S2.out⟩
  · exfalso; omega
theorem end_num (p : Nat) (h : p ≤ 8000000000) : IntKind.i64.wrap (((p : Int) + 8 - 1).tdiv 8) = (((p + 7) / 8 : Nat) : Int) := by
  rw [Int.tdiv_eq_ediv_of_nonneg (by omega), IntWalk.i64_in _ (by omega)]
  omega
theorem num_yes {bt : List Int} {p n : Nat} (h : p + n ≤ bt.length) : numR bt p n = .ok (numOf ((bt.drop p).take n)) (p + n) := by
  unfold numR; rw [if_pos h]

theorem own_from {w : World} {b b2 : Nat} {e : TypeId} {size n : Nat} {v : Value} {xs : List Value} (h : w.ownsRow b e size v n xs) (hb : ∀ j, v.ownBlock = some j → b2 ≤ j) : w.ownsRow b2 e size v n xs := by
  refine ⟨h.1, h.2.imp id ?_⟩
  rintro ⟨g', cap, cur, rfl, a1, a2⟩
  exact ⟨g', cap, cur, rfl, hb g' rfl, a2⟩
def InfO (base s r : Nat) (bs : List Int) (most : Nat) (T : Res (List Int)) (w : World) (k : Nat) (lv : Value) (wr : World) : Prop :=
  ∃ out p e la, lv = .int .i64 ((la : Nat) : Int) ∧ StrOk wr base s r bs p out (most : Int) e ∧ StStep w wr base s r ∧ out.length ≤ most ∧ TabsOk wr ∧
    ((e = 0 ∧ la = 0 ∧ T = blocksR (bitsOf bs) most k out p ∧ 8 * bs.length + 1 ≤ k + p) ∨ (e = 0 ∧ la ≠ 0 ∧ T = .ok out p) ∨ (∃ b, e = errOf b ∧ T = .bad b))
def InfAgree (T : Res (List Int)) (w : World) (ev : Ending) (w' : World) : Prop := match T with
  | .ok out p => ∃ A c, ev = .returned (.tuple #[.slice A out.length c, .int .i64 (((p + 7) / 8 : Nat) : Int), .int .i64 0]) ∧ w'.ownsRow w.heap.size 5 1 (.slice A out.length c) out.length (out.map (Value.int .u8)) ∧ Bytes out
  | .bad b => ev = .returned (.tuple #[.slice none 0 0, .int .i64 0, .int .i64 (errOf b)])
def InfPost (bs : List Int) (most : Int) (w : World) (ev : Ending) (w' : World) : Prop :=
  Below w.heap.size w w' ∧ if most < 0 ∨ 65536 < most then ev = .returned (.tuple #[.slice none 0 0, .int .i64 0, .int .i64 2]) else InfAgree (inflateR (bitsOf bs) most.toNat) w ev w'

theorem after_block {T R : Res (List Int)} {o6 : List Int} {p p6 la f len : Nat} {e6 : Int} {B : List Int → Nat → Res (List Int)} (ag : Agree R o6 p6 e6) (hT : T = R.bind fun out p => if la = 0 then B out p else .ok out p) (hmono : ∀ a q, R = .ok a q → p + 1 + 2 ≤ q) (hk : len + 1 ≤ f + 1 + p) :
    (e6 = 0 ∧ la = 0 ∧ T = B o6 p6 ∧ len + 1 ≤ f + p6) ∨ (e6 = 0 ∧ la ≠ 0 ∧ T = .ok o6 p6) ∨ (∃ b, e6 = errOf b ∧ T = .bad b) := by
  cases R with
  | ok a q =>
    obtain ⟨rfl, rfl, rfl⟩ := ag
    simp only [Res.bind] at hT
    have := hmono _ _ rfl
    by_cases h0 : la = 0
    · rw [if_pos h0] at hT
      exact .inl ⟨rfl, h0, hT, by omega⟩
    · rw [if_neg h0] at hT
      exact .inr (.inl ⟨rfl, h0, hT⟩)
  | bad b => exact .inr (.inr ⟨b, ag, hT⟩)
set_option maxHeartbeats 1600000 in
set_option maxRecDepth 100000 in
theorem inflate_any (bs : List Int) (A : Option Addr) (n cap : Nat) (most : Int) (w : World) (h : RdI .u8 w A n bs) (hB : Bytes bs) (hn : n ≤ 1000000000) (ht : TabsOk w) :
    Calls Tryd.prog 10 #[.slice A n cap, .int .i64 most] w (InfPost bs most w) := by
  have HRd := Lib.hid h
  have HBy := Lib.hid hB
  have HTb := Lib.hid ht
  have h8 : 5 ≤ w.heap.size := ht.2.2.2.2.2
  have hbl : bs.length ≤ 1000000000 := by have := h.1; omega
  clear h hB ht
  by_cases hm0 : most < 0
  · go_enter Tryd.func10, Tryd.ntmps10
    go_wp2
    go_ret3
    exact ⟨Below.refl _ _, by rw [if_pos (.inl hm0)]; rfl⟩
  by_cases hm1 : 65536 < most
  · have d0 : decide (most < 0) = false := by simpa using hm0
    go_enter Tryd.func10, Tryd.ntmps10
    go_wp2
    go_ret3
    exact ⟨Below.refl _ _, by rw [if_pos (.inr hm1)]; rfl⟩
  obtain ⟨mo, rfl⟩ : ∃ mo : Nat, most = (mo : Int) := ⟨most.toNat, by omega⟩
  have hmo : mo ≤ 65536 := by omega
  have HP := Lib.hid (show ∀ ev w', InfPost bs (mo : Int) w ev w' = (Below w.heap.size w w' ∧ InfAgree (inflateR (bitsOf bs) mo) w ev w') from fun ev w' => by unfold InfPost; rw [if_neg (by omega), Int.toNat_natCast])
  have d0 : decide ((mo : Int) < 0) = false := by simp
  have d1 : decide ((65536 : Int) < (mo : Int)) = false := by simpa using hm1
  clear hm0 hm1
  go_enter Tryd.func10, Tryd.ntmps10
  go_wp2_with fail
  refine (newReader_any bs A n cap w HRd.out hn).mono ?_
  rintro ev w1 ⟨r, rfl, hr, hrd, hb1⟩
  have R1 := Lib.hid hrd
  have B1 := Lib.hid hb1
  have hrlt : r < w1.heap.size := by obtain ⟨c2, hb⟩ := hrd.blk; exact hb.lt
  clear hrd hb1
  obtain ⟨T, hT⟩ : ∃ T, T = inflateR (bitsOf bs) mo := ⟨_, rfl⟩
  rw [← hT] at HP
  have HT := Lib.hid hT
  clear hT
  go_wp2
  obtain ⟨w2, hw2⟩ : ∃ w2, w2 = w1.alloc (.cells #[.pointer (some ⟨r, 0, none⟩), .slice none 0 0, .int .i64 (mo : Int), .int .i64 0] 57) := ⟨_, rfl⟩
  rw [← hw2]
  obtain ⟨s, hsE⟩ : ∃ s, s = w1.heap.size := ⟨_, rfl⟩
  have L2 : Below w1.heap.size w1 w2 := by rw [hw2]; exact (Below.refl _ _).alloc (Nat.le_refl _) _
  have hsz : w2.heap.size = s + 1 := by rw [hw2, hsE]; simp
  have H2 : StrOk w2 (s + 1) s r bs 0 [] (mo : Int) 0 := ⟨R1.out.below L2, by omega, by omega, by omega, by omega, (fun z hz => by cases hz), .slice none 0 0, by rw [hw2]; exact Blk.made_at _ _ _ hsE, ⟨rfl, .inl ⟨rfl, rfl⟩⟩, fun j hj => by cases hj⟩
  have HH2 := Lib.hid H2
  have TB2 := Lib.hid (HTb.out.below (below_chain B1.out L2))
  have BW := Lib.hid (below_chain B1.out L2)
  have hws : w.heap.size ≤ w1.heap.size := B1.out.size
  have hs8 : 5 ≤ s := by omega
  have hr8 : 5 ≤ r := by omega
  have hsw : w.heap.size ≤ s := by omega
  have hs2 : s + 1 ≤ w2.heap.size := by omega
  have FIN := Lib.hid (show ∀ w', StStep w2 w' (s + 1) s r → Below w.heap.size w w' from fun w' hst => by
    have hb := BW.out
    exact ⟨hst.os.trans hb.os, hst.tape.trans hb.tape, hst.output.trans hb.output, Nat.le_trans hb.size hst.size, fun k hk => (hst.low k (by omega) (by omega) (by omega)).trans (hb.block k hk)⟩)
  rw [← hsE]
  clear H2 hw2 L2 hsz hsE R1 B1 HRd HTb BW hrlt hws
  go_loopg [8] (8 * bs.length + 1) (InfO (s + 1) s r bs mo T w2)
  case atStart => exact ⟨[], 0, 0, 0, rfl, HH2.out, StStep.refl _ _ _ _, by simp, TB2.out, .inl ⟨rfl, rfl, by rw [HT.out]; unfold inflateR; rw [bitsOf_len], by omega⟩⟩
  case round =>
    clear HH2 TB2 HT
    obtain ⟨out, p, e, la, rfl, hs, st, hol, tb, hT⟩ := hrel
    have H := Lib.hid hs
    have S := Lib.hid st
    have TB := Lib.hid tb
    have c3 := hs.c3
    have hp := hs.2.1
    have h5 := hs.2.2.2.2.1
    have HT := Lib.hid hT
    obtain ⟨h1, _, _, _, _, hBo, vv, q7, q8, q9⟩ := hs
    clear st tb hT
    rcases HT.out with ⟨rfl, rfl, hT, hk⟩ | ⟨rfl, hla, hT⟩ | ⟨b, rfl, hT⟩
    ·
      obtain ⟨f, rfl⟩ : ∃ f, gk = f + 1 := ⟨gk - 1, by omega⟩
      have HT' := Lib.hid (show T = (numR (bitsOf bs) p 1).bind fun last p => (numR (bitsOf bs) p 2).bind fun kind p =>
        ((if kind = 0 then storedR (bitsOf bs) mo out p else if kind = 1 then codedR (bitsOf bs) mo fixedL fixedD out p else if kind = 2 then dynamicR (bitsOf bs) mo out p else .bad false : Res (List Int))).bind fun out p =>
          if last = 0 then blocksR (bitsOf bs) mo f out p else .ok out p from hT)
      clear hT HT h1 q7 q8 q9
      by_cases hb1 : 8 * bs.length < p + 1
      · have HTb := Lib.hid (show T = .bad false by rw [HT'.out]; unfold numR; rw [if_neg (by rw [bitsOf_len]; omega)]; rfl)
        clear HT'
        go_wp2_with fail
        refine (number_no (s + 1) s r bs p out (mo : Int) 0 1 wr H.out HBy.out hbl (by omega) hb1).mono ?_
        rintro ev w3 ⟨rfl, hs3, st3⟩
        rw [if_pos rfl] at hs3
        have H3 := Lib.hid hs3
        have S3 := Lib.hid (S.out.trans st3)
        have TB3 := Lib.hid (TB.out.step st3 hs8 hr8 (by omega))
        clear hs3 st3 H S TB c3
        go_wp2_with fail
        refine (number_no (s + 1) s r bs p out (mo : Int) 4 2 w3 H3.out HBy.out hbl (by omega) (by omega)).mono ?_
        rintro ev w4 ⟨rfl, hs4, st4⟩
        rw [if_neg (by omega)] at hs4
        have H4 := Lib.hid hs4
        have S4 := Lib.hid (S3.out.trans st4)
        have TB4 := Lib.hid (TB3.out.step st4 hs8 hr8 (by omega))
        have c34 := hs4.c3
        clear hs4 st4 H3 S3 TB3
        go_wp2
        go_roundg f
        case measure => omega
        case rel => exact ⟨out, p, 4, 0, rfl, H4.out, S4.out, hol, TB4.out, .inr (.inr ⟨false, rfl, HTb.out⟩)⟩
      · have hn1 := num_yes (bt := bitsOf bs) (p := p) (n := 1) (by rw [bitsOf_len]; omega)
        go_wp2_with fail
        refine (number_any (s + 1) s r bs p out (mo : Int) 0 1 wr H.out HBy.out hbl (by omega)).mono ?_
        rintro ev w3 ⟨la, p3, e3, rfl, hx3, hs3, st3, tk3, _⟩
        rw [hn1] at tk3 HT'
        obtain ⟨hla, hp3, he3⟩ := tk3
        rw [← hla] at HT'
        simp only [Res.bind] at HT'
        subst hp3 he3
        have hla2 : la < 2 := hx3
        have H3 := Lib.hid hs3
        have S3 := Lib.hid (S.out.trans st3)
        have TB3 := Lib.hid (TB.out.step st3 hs8 hr8 (by omega))
        clear hs3 st3 H S TB c3 hla hn1 hx3
        by_cases hb2 : 8 * bs.length < p + 1 + 2
        · have HTb := Lib.hid (show T = .bad false by rw [HT'.out]; unfold numR; rw [if_neg (by rw [bitsOf_len]; omega)])
          clear HT'
          go_wp2_with fail
          refine (number_no (s + 1) s r bs (p + 1) out (mo : Int) 0 2 w3 H3.out HBy.out hbl (by omega) (by omega)).mono ?_
          rintro ev w4 ⟨rfl, hs4, st4⟩
          rw [if_pos rfl] at hs4
          have H4 := Lib.hid hs4
          have S4 := Lib.hid (S3.out.trans st4)
          have TB4 := Lib.hid (TB3.out.step st4 hs8 hr8 (by omega))
          have c34 := hs4.c3
          clear hs4 st4 H3 S3 TB3
          go_wp2
          go_roundg f
          case measure => omega
          case rel => exact ⟨out, p + 1, 4, la, rfl, H4.out, S4.out, hol, TB4.out, .inr (.inr ⟨false, rfl, HTb.out⟩)⟩
        · have hn2 := num_yes (bt := bitsOf bs) (p := p + 1) (n := 2) (by rw [bitsOf_len]; omega)
          go_wp2_with fail
          refine (number_any (s + 1) s r bs (p + 1) out (mo : Int) 0 2 w3 H3.out HBy.out hbl (by omega)).mono ?_
          rintro ev w4 ⟨kd, p4, e4, rfl, hx4, hs4, st4, tk4, _⟩
          rw [hn2] at tk4 HT'
          obtain ⟨hkd, hp4, he4⟩ := tk4
          simp only at HT'
          rw [← hkd] at HT'
          subst hp4 he4
          have hkd4 : kd < 4 := hx4
          have H4 := Lib.hid hs4
          have S4 := Lib.hid (S3.out.trans st4)
          have TB4 := Lib.hid (TB3.out.step st4 hs8 hr8 (by omega))
          have c34 := hs4.c3
          have h54 := hs4.2.2.2.2.1
          clear hs4 st4 H3 S3 TB3 hkd hn2 hx4
          obtain rfl | rfl | rfl | rfl : kd = 0 ∨ kd = 1 ∨ kd = 2 ∨ kd = 3 := by omega
          · rw [if_pos rfl] at HT'
            go_wp2_with fail
            refine (stored_any (s + 1) s r bs (p + 1 + 2) out mo w4 H4.out HBy.out hbl hmo hol).mono ?_
            rintro ev w6 ⟨p6, o6, e6, rfl, hs6, st6, ho6, ag6⟩
            have H6 := Lib.hid hs6
            have S6 := Lib.hid (S4.out.trans st6)
            have TB6 := Lib.hid (TB4.out.step st6 hs8 hr8 (by omega))
            have TF := Lib.hid (after_block (la := la) ag6 HT'.out (fun a q h => storedR_mono h) (show 8 * bs.length + 1 ≤ f + 1 + p by omega))
            clear hs6 st6 ag6 H4 S4 TB4 c34 HT'
            go_wp2
            go_roundg f
            case measure => omega
            case rel => exact ⟨o6, p6, e6, la, rfl, H6.out, S6.out, ho6, TB6.out, TF.out⟩
          · rw [if_neg (by decide), if_pos rfl] at HT'
            go_wp2_with fail
            refine (fixed_any w4).mono ?_
            rintro ev w5 ⟨Al, Ad, cl, cd, rfl, hrl, hrd, hb5⟩
            have RL := Lib.hid hrl
            have RD := Lib.hid hrd
            have B5 := Lib.hid hb5
            clear hrl hrd hb5
            go_wp2_with fail
            have H5 := Lib.hid (H4.out.below B5.out)
            have S5 := Lib.hid (S4.out.trans (StStep.of_below B5.out h54))
            have TB5 := Lib.hid (TB4.out.below B5.out)
            clear H4 S4 TB4 c34
            refine (coded_any (s + 1) s r bs fixedL fixedD (p + 1 + 2) out mo Al Ad 288 32 cl cd w5 H5.out RL.out RD.out (by omega) (by omega) TB5.out hs8 hr8 HBy.out hbl hmo hol).mono ?_
            have H4 := H5
            have S4 := S5
            have TB4 := TB5
            have c34 := H5.out.c3
            rintro ev w6 ⟨p6, o6, e6, rfl, hs6, st6, ho6, ag6⟩
            have H6 := Lib.hid hs6
            have S6 := Lib.hid (S4.out.trans st6)
            have TB6 := Lib.hid (TB4.out.step st6 hs8 hr8 (by omega))
            have TF := Lib.hid (after_block (la := la) ag6 HT'.out (fun a q h => codedR_mono h) (show 8 * bs.length + 1 ≤ f + 1 + p by omega))
            clear hs6 st6 ag6 H4 S4 TB4 c34 HT'
            go_wp2
            go_roundg f
            case measure => omega
            case rel => exact ⟨o6, p6, e6, la, rfl, H6.out, S6.out, ho6, TB6.out, TF.out⟩
          · rw [if_neg (by decide), if_neg (by decide), if_pos rfl] at HT'
            go_wp2_with fail
            refine (dynamic_any (s + 1) s r bs (p + 1 + 2) out mo w4 H4.out TB4.out hs8 hr8 HBy.out hbl hmo hol).mono ?_
            rintro ev w6 ⟨p6, o6, e6, rfl, hs6, st6, ho6, ag6⟩
            have H6 := Lib.hid hs6
            have S6 := Lib.hid (S4.out.trans st6)
            have TB6 := Lib.hid (TB4.out.step st6 hs8 hr8 (by omega))
            have TF := Lib.hid (after_block (la := la) ag6 HT'.out (fun a q h => dynamicR_mono h) (show 8 * bs.length + 1 ≤ f + 1 + p by omega))
            clear hs6 st6 ag6 H4 S4 TB4 c34 HT'
            go_wp2
            go_roundg f
            case measure => omega
            case rel => exact ⟨o6, p6, e6, la, rfl, H6.out, S6.out, ho6, TB6.out, TF.out⟩
          · rw [if_neg (by decide), if_neg (by decide), if_neg (by decide)] at HT'
            simp only at HT'
            go_wp2_with fail
            refine (fail_any (s + 1) s r bs (p + 1 + 2) out (mo : Int) 0 4 w4 H4.out).mono ?_
            rintro ev w6 ⟨rfl, hs6, st6, _⟩
            rw [if_pos rfl] at hs6
            have H6 := Lib.hid hs6
            have S6 := Lib.hid (S4.out.trans st6)
            have TB6 := Lib.hid (TB4.out.step st6 hs8 hr8 (by omega))
            clear hs6 st6 H4 S4 TB4 c34
            go_wp2
            go_roundg f
            case measure => omega
            case rel => exact ⟨out, p + 1 + 2, 4, la, rfl, H6.out, S6.out, hol, TB6.out, .inr (.inr ⟨false, rfl, HT'.out⟩)⟩
    · have HT' := Lib.hid hT
      clear hT HT
      have dla : ((la : Int) == 0) = false := by simp; omega
      obtain ⟨Ao, co, rfl, _⟩ := own_slice q8
      have c1 := q7.cell (i := 1) (v := .slice Ao out.length co) rfl
      have c0 := q7.cell (i := 0) (v := .pointer (some ⟨r, 0, none⟩)) rfl
      have O := Lib.hid q8
      have O9 := Lib.hid q9
      have R := Lib.hid h1
      clear q7 q8 q9 h1
      go_wp2
      refine wp_region_qs (fun j w' => (j ≤ 1 → w'.cell? ⟨s, 1, none⟩ = some (.slice Ao out.length co)) ∧ (j ≤ 0 → w'.cell? ⟨s, 0, none⟩ = some (.pointer (some ⟨r, 0, none⟩)))) [(0, some 1), (1, some 1), (2, some 1), (3, some 1), (4, some 1), (5, some 1), (6, some 1), (7, some 0), (8, none), (9, some 1), (10, some 1), (11, some 1), (12, some 1), (13, some 1), (14, some 1)] (by kernel_rfl) (by kernel_rfl) (by kernel_rfl) (by kernel_rfl) (by kernel_rfl) (fun _ _ _ _ _ h => h) ⟨fun _ => c1, fun _ => c0⟩ ?_
      simp only [List.map_cons, List.map_nil, List.getD_cons_succ, List.getD_cons_zero]
      (repeat (first | (refine qs_now (v := ?_) (by rfl) ?_ ?_; rotate_left 1; (· (intro w' hS; go_simp; (try (simp only [↓IntWalk.iteOmega]; go_simp)); (try simp (disch := omega) only [IntWalk.i64_in]); try with_reducible rfl)); simp only [Act.put, List.setIfInBounds_toArray, List.set_cons_zero, List.set_cons_succ]) | (refine qs_run (v := ?_) (by rfl) ?_ ?_; rotate_left 1; (· (intro j w' hS; go_simp; (try (simp only [↓IntWalk.iteOmega]; go_simp)); (try simp (disch := omega) only [IntWalk.i64_in]); try with_reducible rfl)); simp only [Act.put, List.setIfInBounds_toArray, List.set_cons_zero, List.set_cons_succ]) | (refine qs_mid (v := ?_) (by rfl) ?_ ?_; rotate_left 1; (· (intro j w' hj1 hj2 hS; go_simp; (try (simp only [↓IntWalk.iteOmega]; go_simp)); (try simp (disch := omega) only [IntWalk.i64_in]); try with_reducible rfl)); simp only [Act.put, List.setIfInBounds_toArray, List.set_cons_zero, List.set_cons_succ]) | (refine qs_skip (by rfl) ?_; simp only [Act.put, List.setIfInBounds_toArray, List.set_cons_zero, List.set_cons_succ])))
      refine qs_act ?_
      go_wp2_with fail
      refine (at_any r p bs wr.drew (R.out.below (Below.refl _ _).drew)).mono ?_
      rintro ev w8 ⟨rfl, rfl⟩
      have B8 := Lib.hid ((Below.refl wr.heap.size wr).drew)
      have c18 : wr.drew.cell? ⟨s, 1, none⟩ = some (.slice Ao out.length co) := c1
      clear c1 c0
      go_wp2
      refine ⟨⟨fun _ => c18, fun h => absurd h (by omega)⟩, ?_⟩
      (repeat (first | (refine qs_now (v := ?_) (by rfl) ?_ ?_; rotate_left 1; (· (intro w' hS; go_simp; (try (simp only [↓IntWalk.iteOmega]; go_simp)); (try simp (disch := omega) only [IntWalk.i64_in]); try with_reducible rfl)); simp only [Act.put, List.setIfInBounds_toArray, List.set_cons_zero, List.set_cons_succ]) | (refine qs_run (v := ?_) (by rfl) ?_ ?_; rotate_left 1; (· (intro j w' hS; go_simp; (try (simp only [↓IntWalk.iteOmega]; go_simp)); (try simp (disch := omega) only [IntWalk.i64_in]); try with_reducible rfl)); simp only [Act.put, List.setIfInBounds_toArray, List.set_cons_zero, List.set_cons_succ]) | (refine qs_mid (v := ?_) (by rfl) ?_ ?_; rotate_left 1; (· (intro j w' hj1 hj2 hS; go_simp; (try (simp only [↓IntWalk.iteOmega]; go_simp)); (try simp (disch := omega) only [IntWalk.i64_in]); try with_reducible rfl)); simp only [Act.put, List.setIfInBounds_toArray, List.set_cons_zero, List.set_cons_succ]) | (refine qs_skip (by rfl) ?_; simp only [Act.put, List.setIfInBounds_toArray, List.set_cons_zero, List.set_cons_succ])))
      refine qs_nil ?_
      go_wp2
      go_ret3
      rw [HP.out, HT'.out]
      have hst := S.out.trans (StStep.of_below B8.out h5)
      refine ⟨FIN.out _ hst, Ao, co, ?_, ?_, hBo⟩
      · show Ending.returned (.tuple #[.slice Ao out.length co, .int .i64 (IntKind.i64.wrap (((p : Int) + 8 - 1).tdiv 8)), .int .i64 0]) = _
        rw [end_num p (by omega)]
      · exact own_from (own_below O.out B8.out) (fun j hj => by have := O9.out j hj; omega)
    · have HT' := Lib.hid hT
      clear hT HT h1 q7 q8 q9
      have hne := errOf_ne b
      obtain ⟨E, hE⟩ : ∃ E, E = errOf b := ⟨_, rfl⟩
      rw [← hE] at c3 H hne
      have dE1 : (E == 0) = false := by simpa using hne
      have dE2 : (E != 0) = true := by simpa using hne
      have HE := Lib.hid hE
      clear hE hne
      by_cases hla : la = 0
      · subst hla
        go_wp2
        refine wp_region_qs (fun _ w' => w'.cell? ⟨s, 3, none⟩ = some (.int .i64 E)) [(0, some 0), (1, some 0), (2, some 0), (3, some 0), (4, some 0), (5, some 0), (6, some 0)] (by kernel_rfl) (by kernel_rfl) (by kernel_rfl) (by kernel_rfl) (by kernel_rfl) (fun _ _ _ _ _ h => h) c3 ?_
        simp only [List.map_cons, List.map_nil, List.getD_cons_succ, List.getD_cons_zero]
        (repeat (first | (refine qs_now (v := ?_) (by rfl) ?_ ?_; rotate_left 1; (· (intro w' hS; go_simp; (try (simp only [↓IntWalk.iteOmega]; go_simp)); (try simp (disch := omega) only [IntWalk.i64_in]); try with_reducible rfl)); simp only [Act.put, List.setIfInBounds_toArray, List.set_cons_zero, List.set_cons_succ]) | (refine qs_run (v := ?_) (by rfl) ?_ ?_; rotate_left 1; (· (intro j w' hS; go_simp; (try (simp only [↓IntWalk.iteOmega]; go_simp)); (try simp (disch := omega) only [IntWalk.i64_in]); try with_reducible rfl)); simp only [Act.put, List.setIfInBounds_toArray, List.set_cons_zero, List.set_cons_succ]) | (refine qs_skip (by rfl) ?_; simp only [Act.put, List.setIfInBounds_toArray, List.set_cons_zero, List.set_cons_succ])))
        refine qs_nil ?_
        go_wp2
        go_ret3
        rw [HP.out, HT'.out]
        have hE := HE.out
        subst hE
        exact ⟨(FIN.out _ S.out).drew, rfl⟩
      · have dla : ((la : Int) == 0) = false := by simp; omega
        go_wp2
        refine wp_region_qs (fun _ w' => w'.cell? ⟨s, 3, none⟩ = some (.int .i64 E)) [(0, some 0), (1, some 0), (2, some 0), (3, some 0), (4, some 0), (5, some 0), (6, some 0)] (by kernel_rfl) (by kernel_rfl) (by kernel_rfl) (by kernel_rfl) (by kernel_rfl) (fun _ _ _ _ _ h => h) c3 ?_
        simp only [List.map_cons, List.map_nil, List.getD_cons_succ, List.getD_cons_zero]
        (repeat (first | (refine qs_now (v := ?_) (by rfl) ?_ ?_; rotate_left 1; (· (intro w' hS; go_simp; (try (simp only [↓IntWalk.iteOmega]; go_simp)); (try simp (disch := omega) only [IntWalk.i64_in]); try with_reducible rfl)); simp only [Act.put, List.setIfInBounds_toArray, List.set_cons_zero, List.set_cons_succ]) | (refine qs_run (v := ?_) (by rfl) ?_ ?_; rotate_left 1; (· (intro j w' hS; go_simp; (try (simp only [↓IntWalk.iteOmega]; go_simp)); (try simp (disch := omega) only [IntWalk.i64_in]); try with_reducible rfl)); simp only [Act.put, List.setIfInBounds_toArray, List.set_cons_zero, List.set_cons_succ]) | (refine qs_skip (by rfl) ?_; simp only [Act.put, List.setIfInBounds_toArray, List.set_cons_zero, List.set_cons_succ])))
        refine qs_nil ?_
        go_wp2
        go_ret3
        rw [HP.out, HT'.out]
        have hE := HE.out
        subst hE
        exact ⟨(FIN.out _ S.out).drew, rfl⟩
end Go.Proofs.YtacidmamfkfipaaDoor
