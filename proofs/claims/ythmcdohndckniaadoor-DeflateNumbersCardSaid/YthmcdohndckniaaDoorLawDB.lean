/-
  DeflateBound and DeflateNumbers walked.
-/
import Derived.Test.YthmcdohndckniaaDoorDTop
import Derived.Test.YthmcdohndckniaaDoorDLaid
namespace Go.Proofs.YthmcdohndckniaaDoor
open Go.RowKit
set_option linter.unusedVariables false

theorem boundlaw_any (n : Int) (w : World) (ht : DTabs w) (h : -9223372036854775808 ≤ n ∧ n ≤ 9223372036854775807) :
    Calls Tryd.prog 3 #[.int .i64 n] w (TruePost w) := by
  have AW := Lib.hid (awake07_any w ht)
  clear ht
  have BD := Lib.hid (bound_any n w h)
  by_cases h0 : n < 0
  · have h0' : ¬ 0 ≤ n := by omega
    go_enter Tryd.func3, Tryd.ntmps3
    go_wp2_with fail
    refine BD.out.mono ?_
    rintro ev w1 ⟨rfl, rfl⟩
    rw [if_pos (.inl h0)]
    go_wp2_with fail
    refine AW.out.mono ?_
    rintro ev w2 ⟨rfl, hb⟩
    have B := Lib.hid hb
    go_wp2
    go_ret
    exact ⟨rfl, B.out⟩
  by_cases h1 : 65536 < n
  · have h1' : ¬ n ≤ 65536 := by omega
    have h0' : 0 ≤ n := by omega
    go_enter Tryd.func3, Tryd.ntmps3
    go_wp2_with fail
    refine BD.out.mono ?_
    rintro ev w1 ⟨rfl, rfl⟩
    rw [if_pos (.inr h1)]
    go_wp2_with fail
    refine AW.out.mono ?_
    rintro ev w2 ⟨rfl, hb⟩
    have B := Lib.hid hb
    go_wp2
    go_ret
    exact ⟨rfl, B.out⟩
  · have h1' : n ≤ 65536 := by omega
    have h0' : 0 ≤ n := by omega
    go_enter Tryd.func3, Tryd.ntmps3
    go_wp2_with fail
    refine BD.out.mono ?_
    rintro ev w1 ⟨rfl, rfl⟩
    rw [if_neg (by omega)]
    go_wp2_with fail
    refine AW.out.mono ?_
    rintro ev w2 ⟨rfl, hb⟩
    have B := Lib.hid hb
    go_wp2
    go_ret
    exact ⟨rfl, B.out⟩
end Go.Proofs.YthmcdohndckniaaDoor
