/-
  what this claim needs of: StJ (written by cut.py).
-/
import Derived.Test.YtgjjdfhoakailaaGreatOStH
import Derived.Test.YtgjjdfhoakailaaGreatOStQ1
import Derived.Test.YtgjjdfhoakailaaGreatOStD
namespace Go.Proofs.YtgjjdfhoakailaaGreat
open Go.RowKit Go.Maps Go.Sort Go.Shelf
set_option linter.unusedVariables false
set_option linter.unusedSimpArgs false

theorem mark_any (k i : Int) (w : World) (hk : 0 ≤ k ∧ k ≤ 1000000000) (hi : 0 ≤ i ∧ i ≤ 1000000000000) :
    Calls Tryz.prog 109 #[.int .i64 k, .int .i64 i] w fun e w' => e = .returned (.int .i64 (1000003 * (k + 7) + i)) ∧ w = w' := by
  obtain ⟨h1, h2⟩ := hk
  obtain ⟨h3, h4⟩ := hi
  have h5 : 1000003 * (k + 7) ≤ 1000003 * 1000000007 := by omega
  have h6 : 0 ≤ 1000003 * (k + 7) := by omega
  go_enter Tryz.func109, Tryz.ntmps109
  go_wp2_with fail
  go_ret
  exact ⟨rfl, rfl⟩
instance : DecidableEq Fr := fun a b => decidable_of_iff ((a.key, a.pl) = (b.key, b.pl)) (by cases a; cases b; simp)
instance : DecidableEq Pu := fun a b => decidable_of_iff ((a.unit, a.sl) = (b.unit, b.sl)) (by cases a; cases b; simp)
def mkN (k i : Int) : Int := 1000003 * (k + 7) + i
theorem mkN_B {k i : Int} (hk : 0 ≤ k ∧ k ≤ 1000000000) (hi : 0 ≤ i ∧ i ≤ 1000000000000) : i64B (mkN k i) := by unfold i64B mkN; omega
end Go.Proofs.YtgjjdfhoakailaaGreat
namespace Go.Proofs.YtgjjdfhoakailaaGreat
open Go.RowKit Go.Maps Go.Sort Go.Shelf
set_option linter.unusedVariables false
set_option linter.unusedSimpArgs false

end Go.Proofs.YtgjjdfhoakailaaGreat
namespace Go.Proofs.YtgjjdfhoakailaaGreat
open Go.RowKit Go.Maps Go.Sort Go.Shelf
set_option linter.unusedVariables false
set_option linter.unusedSimpArgs false

theorem src_pre {w : World} {sz n k c : Nat} {A : Option Addr} {xs ys : List Value} (h : Src w sz (.slice A (n + k) c) (n + k) (xs ++ ys)) (hx : xs.length = n * sz) : Src w sz (.slice A n c) n xs := by
  obtain ⟨A', c', e, _, hc⟩ := h
  injection e with e1 e2 e3
  subst e1 e3
  refine ⟨A, c, rfl, hx, fun hn => ?_⟩
  obtain ⟨b, off, hA, hlt, hcell⟩ := hc (by omega)
  refine ⟨b, off, hA, hlt, fun j y hy => hcell j y ?_⟩
  have hj := (List.getElem?_eq_some_iff.1 hy).1
  rw [List.getElem?_append_left hj]
  exact hy
section
variable {w w' : World} {base : Nat} {o : OpV} {ga ca gb cb : Nat}
end
end Go.Proofs.YtgjjdfhoakailaaGreat
namespace Go.Proofs.YtgjjdfhoakailaaGreat
open Go.RowKit Go.Maps Go.Sort Go.Shelf
set_option linter.unusedVariables false
set_option linter.unusedSimpArgs false

/-- The two states, side by side. -/
structure Two (w0 w : World) (si xi bx mi bs xs n m c : Nat) (A : Option Addr) (l : List It) (E : ExM) (f : MpF) (M : SnM) : Prop where
  st : StO w0 w si xi bx mi bs n E f M
  rf : RfIs w w0.heap.size xs n m c A l
  perm : l.Perm (stItems n E f M)
  lo : w0.heap.size ≤ xs
section
variable {w0 w w' : World} {si xi bx mi bs xs n m c : Nat} {A : Option Addr} {l : List It} {E : ExM} {f : MpF} {M : SnM}
end
end Go.Proofs.YtgjjdfhoakailaaGreat
namespace Go.Proofs.YtgjjdfhoakailaaGreat
open Go.RowKit Go.Maps Go.Sort Go.Shelf
set_option linter.unusedVariables false
set_option linter.unusedSimpArgs false

end Go.Proofs.YtgjjdfhoakailaaGreat
