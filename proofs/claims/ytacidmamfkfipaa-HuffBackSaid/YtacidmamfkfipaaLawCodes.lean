/-
  The law HuffCodes, walked.
-/
import Derived.Test.YtacidmamfkfipaaNew
import Derived.Test.YtacidmamfkfipaaKitInts
import Derived.Test.YtacidmamfkfipaaRef04
import Derived.Test.YtacidmamfkfipaaAwake4
namespace Go.Proofs.Ytacidmamfkfipaa
open Go.RowKit
set_option linter.unusedVariables false

/-- What was lent reads as it did. -/
theorem lent_rd {zs : List Int} {w : World} {base g n c : Nat} (hl : zs.length = n) (h : w.ownsRow base 3 1 (.slice (some ⟨g, 0, none⟩) (n + 12) c) (n + 12) ((zs ++ marksTo 12).map (Value.int .i64))) : RdI .i64 w (some ⟨g, 0, none⟩) n zs := by
  have h1 := (RdI.of_own h)
  refine ⟨hl, fun hn => ?_⟩
  obtain ⟨b, off, e, hlt, hc⟩ := h1.2 (by omega)
  refine ⟨b, off, e, hlt, fun j hj => ?_⟩
  have := hc j (by omega)
  rw [this]
  have hj' : j < zs.length := by omega
  simp [List.getElem?_append_left hj']

set_option maxHeartbeats 1600000 in
theorem codes_walk (zs : List Int) (A : Option Addr) (n cap : Nat) (w : World) (hr : RdI .i64 w A n zs) (hn : n ≤ 9223372036854775807) :
    Calls Try.prog 6 #[.slice A n cap] w fun e w' => e = .returned (.bool true) ∧ Below w.heap.size w w' := by
  have HR := Lib.hid hr
  have HL := Lib.hid hr.1
  clear hr
  by_cases hbig : 400 < n
  · have hb : (400 : Int) < n := by omega
    go_enter Try.func6, Try.ntmps6
    go_wp2_with (go_at_call 10; refine (awake4 _).mono ?_; rintro ev w1 ⟨rfl, hb1⟩; have HB1 := Lib.hid hb1; clear hb1)
    go_ret
    exact ⟨rfl, HB1.out⟩
  have hb : ¬ (400 : Int) < n := by omega
  go_enter Try.func6, Try.ntmps6
  go_wp2_with (first
    | (go_at_call 10; refine (awake4 _).mono ?_; rintro ev w1 ⟨rfl, hb1⟩; have HB1 := Lib.hid hb1; clear hb1)
    | (go_at_call 11; refine (lent_ints zs A n cap w1 (HR.out.below HB1.out) (by omega)).mono ?_; rintro ev w2 ⟨g2, c2, rfl, hc2, ho2, hb2⟩; have HB2 := Lib.hid (below_chain HB1.out hb2); have HC2 := Lib.hid hc2; have O2 := Lib.hid ho2; clear ho2 hb2 hc2))
  refine (codes_any zs (some ⟨g2, 0, none⟩) n c2 w2 (lent_rd HL.out O2.out) (by omega)).mono ?_
  rintro ev w3 hp3
  rcases hp3 with (⟨hok, rfl, hb3⟩ | ⟨hok, A3, c3, rfl, ho3, hb3⟩)
  · have HB3 := Lib.hid (below_chain HB2.out hb3)
    have O3 := Lib.hid (own_below O2.out hb3)
    have HOk := Lib.hid hok
    clear hok hb3 O2
    go_wp2_with fail
    refine (rcodes_any zs A n cap w3 (HR.out.below HB3.out) (by omega)).mono ?_
    rintro ev w4 hp4
    rcases hp4 with (⟨_, rfl, hb4⟩ | ⟨hok, A4, c4, rfl, ho4, hb4⟩)
    · have HB4 := Lib.hid (below_chain HB3.out hb4)
      have O4 := Lib.hid (own_below O3.out hb4)
      clear hb4 O3
      go_wp2_with fail
      refine (same_ints [] [] none none 0 0 0 0 w4 (RdI.nil _) (RdI.nil _) (by omega) (by omega)).mono ?_
      rintro ev w5 ⟨rfl, hb5⟩
      have HB5 := Lib.hid (below_chain HB4.out hb5)
      have O5 := Lib.hid (own_below O4.out hb5)
      clear hb5 O4
      go_wp2_with fail
      refine (kept_ints zs A g2 n c2 cap w1.heap.size w5 (HR.out.below HB5.out) O5.out HC2.out (by omega)).mono ?_
      rintro ev w6 ⟨rfl, hb6⟩
      have HB6 := Lib.hid (below_chain HB5.out hb6)
      clear hb6
      go_wp2_with fail
      refine (new_any zs A n cap w6 (HR.out.below HB6.out) (by omega)).mono ?_
      rintro ev w7 ⟨hor, hb7⟩
      rcases hor with ⟨_, rfl⟩ | ⟨h, _⟩
      · have HB7 := Lib.hid (below_chain HB6.out hb7)
        clear hb7
        go_wp2
        go_ret
        exact ⟨rfl, HB7.out⟩
      · rw [HOk.out] at h; cases h
    · rw [HOk.out] at hok; cases hok
  · have HB3 := Lib.hid (below_chain HB2.out hb3)
    have O3 := Lib.hid (own_below O2.out hb3)
    have C3 := Lib.hid ho3
    have HOk := Lib.hid hok
    clear hok hb3 O2 ho3
    go_wp2_with fail
    refine (rcodes_any zs A n cap w3 (HR.out.below HB3.out) (by omega)).mono ?_
    rintro ev w4 hp4
    rcases hp4 with (⟨hok, _⟩ | ⟨_, A4, c4, rfl, ho4, hb4⟩)
    · rw [HOk.out] at hok; cases hok
    have HB4 := Lib.hid (below_chain HB3.out hb4)
    have O4 := Lib.hid (own_below O3.out hb4)
    have C4 := Lib.hid (own_below C3.out hb4)
    have D4 := Lib.hid ho4
    clear hb4 O3 C3 ho4
    go_wp2_with fail
    refine (same_ints (codesOf zs) (codesOf zs) A3 A4 n n c3 c4 w4 (RdI.of_own C4.out) (RdI.of_own D4.out) (by omega) (by omega)).mono ?_
    rintro ev w5 ⟨rfl, hb5⟩
    have HB5 := Lib.hid (below_chain HB4.out hb5)
    have O5 := Lib.hid (own_below O4.out hb5)
    have hd : decide (codesOf zs = codesOf zs) = true := by simp
    rw [hd]
    clear hb5 O4 hd C4 D4
    go_wp2_with fail
    refine (kept_ints zs A g2 n c2 cap w1.heap.size w5 (HR.out.below HB5.out) O5.out HC2.out (by omega)).mono ?_
    rintro ev w6 ⟨rfl, hb6⟩
    have HB6 := Lib.hid (below_chain HB5.out hb6)
    clear hb6
    go_wp2_with fail
    refine (new_any zs A n cap w6 (HR.out.below HB6.out) (by omega)).mono ?_
    rintro ev w7 ⟨hor, hb7⟩
    rcases hor with ⟨h, _⟩ | ⟨_, g, rfl, hg, _⟩
    · rw [HOk.out] at h; cases h
    · have HB7 := Lib.hid (below_chain HB6.out hb7)
      clear hb7
      go_wp2
      go_ret
      exact ⟨rfl, HB7.out⟩
end Go.Proofs.Ytacidmamfkfipaa
