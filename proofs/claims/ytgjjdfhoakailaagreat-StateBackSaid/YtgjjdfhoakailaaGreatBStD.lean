/-
  what this claim needs of: StD (written by cut.py).
-/
import Derived.Test.YtgjjdfhoakailaaGreatBStT5
import Derived.Test.YtgjjdfhoakailaaGreatBStT3
import Derived.Test.YtgjjdfhoakailaaGreatBStK1
namespace Go.Proofs.YtgjjdfhoakailaaGreat
open Go.RowKit Go.Maps Go.Sort Go.Shelf
set_option linter.unusedVariables false
set_option linter.unusedSimpArgs false

theorem pick_any (x : Int) (n : Nat) (hn : 1 ≤ n) (hb : n ≤ 1000000000) (hx : i64B x) (w : World) : Calls Tryz.prog 25 #[.int .i64 x, .int .i64 (n : Int)] w fun e w' => (∃ j : Nat, j < n ∧ e = .returned (.int .i64 (j : Int))) ∧ w = w' := by
  have h1 : -(n : Int) < Int.tmod x (n : Int) ∧ Int.tmod x (n : Int) < (n : Int) := by
    have hp : (0 : Int) < (n : Int) := by omega
    exact ⟨Int.lt_tmod_of_pos x hp, Int.tmod_lt_of_pos x hp⟩
  obtain ⟨r, hr⟩ : ∃ r, r = Int.tmod x (n : Int) := ⟨_, rfl⟩
  rw [← hr] at h1
  have hw : IntKind.i64.wrap (Int.tmod x (n : Int)) = r := by rw [← hr]; simp (disch := omega) only [IntWalk.i64_in]
  have h2 : ¬ (n : Int) < 1 := by omega
  have h3 : (n : Int) ≠ 0 := by omega
  obtain ⟨h11, h12⟩ := h1
  have hrs := hr.symm
  clear hr
  by_cases hneg : r < 0
  · go_enter Tryz.func25, Tryz.ntmps25
    go_wp2_with fail
    go_ret
    refine ⟨⟨(r + n).toNat, by omega, ?_⟩, rfl⟩
    have e : ((r + n).toNat : Int) = r + n := by omega
    rw [e]
    rfl
  · have hneg' : 0 ≤ r := by omega
    go_enter Tryz.func25, Tryz.ntmps25
    go_wp2_with fail
    go_ret
    refine ⟨⟨r.toNat, by omega, ?_⟩, rfl⟩
    have e : (r.toNat : Int) = r := by omega
    rw [e]
    rfl
end Go.Proofs.YtgjjdfhoakailaaGreat
namespace Go.Proofs.YtgjjdfhoakailaaGreat
open Go.RowKit Go.Maps Go.Sort Go.Shelf
set_option linter.unusedVariables false
set_option linter.unusedSimpArgs false

theorem opEC_info' (e : OpE) : (Tryz.prog.info? 35).map (·.size) = some (opEC e).length := opC_info _ _ _ _ _
theorem off_args {w w0 : World} {si xi bx mi bs n : Nat} {E : ExM} {f : MpF} {M : SnM} {wr : World} (h : StO w wr si xi bx mi bs n E f M) {x : OpE} (hx : OpAt w x.o x.A x.c x.B x.d) : Off x.o.news.length [bx, mi, bs] x.A ∧ Off x.o.puts.length [bx, mi, bs] x.B := by
  have g : ∀ {m sz : Nat} {A : Option Addr} {c : Nat} {xs : List Value}, Src w sz (.slice A m c) m xs → Off m [bx, mi, bs] A := fun {m sz A c xs} h' hm p hp hk => by
    obtain ⟨A', c', e, _, hc⟩ := h'
    injection e with e
    subst e
    obtain ⟨b', o', e2, hlt', _⟩ := hc hm
    rw [hp] at e2
    injection e2 with e2
    subst e2
    have := h.lo
    simp at hk
    omega
  exact ⟨g hx.news, g hx.puts⟩
def ChI (w : World) (si xi bx mi bs n : Nat) (k : Nat) (iv : Value) (wr : World) : Prop :=
  ∃ (i : Nat) (E : ExM) (f : MpF) (M : SnM), iv = .int .i64 (i : Int) ∧ i ≤ n ∧ i + k ≤ n ∧ n ≤ i + k ∧ StO w wr si xi bx mi bs 20 E f M ∧ E.length ≤ 18 * i
end Go.Proofs.YtgjjdfhoakailaaGreat
