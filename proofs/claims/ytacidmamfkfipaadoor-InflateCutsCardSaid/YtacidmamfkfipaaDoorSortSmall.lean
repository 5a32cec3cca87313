/-
  slices.SortStableFunc at rows of packs that are short: what is asked of it, and that short rows meet it.
-/
import Derived.Test.YtacidmamfkfipaaDoorSortIns
namespace Go.Proofs.YtacidmamfkfipaaDoor
open Go.RowKit
set_option linter.unusedVariables false

def SortPost (s : List PV) (w : World) (g n cap : Nat) (e : Ending) (w' : World) : Prop :=
  e = .returned (.tuple #[]) ∧ PRow w' g n cap (stSort s) ∧ w.grownBy w' (some g)
/-- Rows of at most N packs are sorted, stably. -/
def StableSaid (N : Nat) : Prop := ∀ (s : List PV) (w : World) (g n cap : Nat), n ≤ N → PRow w g n cap s → (∀ p ∈ s, Small p.1) →
  Calls Tryd.prog 115 #[.slice (some ⟨g, 0, none⟩) n cap, .func (.func 116) #[] #[]] w (SortPost s w g n cap)

set_option maxHeartbeats 800000 in
theorem stable_small (s : List PV) (w : World) (g n cap : Nat) (hn : n ≤ 19) (hr : PRow w g n cap s) (hs : ∀ p ∈ s, Small p.1) :
    Calls Tryd.prog 125 #[.slice (some ⟨g, 0, none⟩) n cap, .int .i64 n, .func (.func 116) #[] #[]] w (SortPost s w g n cap) := by
  have HR := Lib.hid hr
  have HS := Lib.hid hs
  clear hr hs
  have h20 : ¬ (20 : Int) ≤ n := by omega
  have h20' : ¬ (20 : Int) < n := by omega
  go_enter Tryd.func125, Tryd.ntmps125
  go_wp2
  refine wp_loop_rounds 1 ?_
  rw [rounds_succ]
  go_wp2_with fail
  refine (ins_any [] s [] w g n cap 0 n (by simpa using HR.out) rfl (by have := HR.out.len; omega) (by omega) HS.out).mono ?_
  rintro ev w1 ⟨rfl, s', h1, h2, h3, h4⟩
  have HP : Hid (SortPost s w g n cap (.returned (.tuple #[])) w1) := ⟨rfl, by rw [← stSort_of h1 h2]; simpa using h3, h4⟩
  clear h1 h2 h3 h4
  go_wp2
  refine wp_loop_rounds 1 ?_
  rw [rounds_succ]
  go_wp2
  go_end0
  exact HP.out

theorem stableSaid_small : StableSaid 19 := by
  intro s w g n cap hn hr hs
  have HR := Lib.hid hr
  have HS := Lib.hid hs
  clear hr hs
  go_enter Tryd.func115, Tryd.ntmps115
  go_wp2_with (go_at_call 125; refine (stable_small s w g n cap hn HR.out HS.out).mono ?_; rintro ev w1 ⟨rfl, h1⟩; have HP := Lib.hid h1; clear h1)
  go_end0
  exact ⟨rfl, HP.out⟩
end Go.Proofs.YtacidmamfkfipaaDoor
