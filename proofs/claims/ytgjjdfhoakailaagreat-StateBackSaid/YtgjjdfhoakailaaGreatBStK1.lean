/-
  what this claim needs of: StK1, StK2 (written by cut.py).
-/
import Derived.Test.YtgjjdfhoakailaaGreatBStP6
import Derived.Test.YtgjjdfhoakailaaGreatBStN3
import Derived.Test.YtgjjdfhoakailaaGreatBStN2
import Derived.Test.YtgjjdfhoakailaaGreatBStQ1
namespace Go.Proofs.YtgjjdfhoakailaaGreat
open Go.RowKit Go.Maps Go.Sort Go.Shelf
set_option linter.unusedVariables false
set_option linter.unusedSimpArgs false

/-- Do, with what it leaves alone. -/
def DoT (w0 w : World) (si xi bx mi bs n : Nat) (E : ExM) (f : MpF) (M : SnM) (o : OpV) (e : Ending) (w' : World) : Prop :=
  ∃ r E' f' M', e = .returned (.int .i64 r) ∧ DoR n E f M o r E' f' M' ∧ E'.length ≤ E.length + 18 ∧ StO w0 w' si xi bx mi bs n E' f' M' ∧ Tch [bx, mi, bs] w w'
theorem do_t {w0 w : World} {si xi bx mi bs n : Nat} {E : ExM} {f : MpF} {M : SnM} (h : StO w0 w si xi bx mi bs n E f M) (o : OpV) (A : Option Addr) (c : Nat) (B : Option Addr) (d : Nat) (h0 : OpAt w o A c B d) (hA : Off o.news.length [bx, mi, bs] A) (hB : Off o.puts.length [bx, mi, bs] B) (hn : o.news.length ≤ 10000000) (hm : o.puts.length ≤ 10000000) (hE : E.length ≤ 10000000) (hk0 : 0 ≤ o.kind ∧ o.kind < 256) :
    Calls Tryz.prog 14 #[.pointer (some ⟨si, 0, none⟩), .agg (opC o A c B d).toArray] w (DoT w0 w si xi bx mi bs n E f M o) := by
  refine (do_any h.st o A c B d h0 hA hB hn hm hE h.inv.idsOk (by have := h.inv.len; omega) h.inv.refOk hk0).mono ?_
  rintro e w' ⟨r, E', f', M', rfl, hd, h1, h2⟩
  have hi := do_inv h.st.maps.high h.inv hd
  refine ⟨r, E', f', M', rfl, hd, hi.2, ⟨h1, hi.1, h.low.trans (h2.toBelow h.low.size (fun k hk => ?_)), h.lo⟩, h2⟩
  have := h.lo
  simp at hk
  omega
end Go.Proofs.YtgjjdfhoakailaaGreat
namespace Go.Proofs.YtgjjdfhoakailaaGreat
open Go.RowKit Go.Maps Go.Sort Go.Shelf
set_option linter.unusedVariables false
set_option linter.unusedSimpArgs false

section
end
theorem new20 (w : World) : Calls Tryz.prog 11 #[.int .i64 20] w (StNewPost 20 w) := st_new 20 (by omega) w
/-- Rows of items that are the same. -/
theorem same_own {w : World} {b1 b2 : Nat} {v1 v2 : Value} {l : List It} (h1 : w.ownsRow b1 56 73 v1 l.length (itsC l)) (h2 : w.ownsRow b2 56 73 v2 l.length (itsC l)) (hb : ∀ i ∈ l, ItB i) (hl : l.length ≤ 1000000000) :
    Calls Tryz.prog 18 #[v1, v2] w fun e w' => e = .returned (.bool true) ∧ Below w.heap.size w w' := by
  obtain ⟨A1, c1, rfl, x1⟩ := Src.of_own h1
  obtain ⟨A2, c2, rfl, x2⟩ := Src.of_own h2
  refine (same_its ⟨A1, c1, rfl, x1⟩ rfl ⟨A2, c2, rfl, x2⟩ rfl hb hb (by omega) (by omega)).mono ?_
  rintro e w' ⟨rfl, hb⟩
  exact ⟨by rw [decide_eq_true rfl], hb⟩
end Go.Proofs.YtgjjdfhoakailaaGreat
