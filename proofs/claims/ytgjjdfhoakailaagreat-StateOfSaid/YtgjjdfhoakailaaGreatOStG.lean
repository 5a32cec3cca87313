/-
  what this claim needs of: StG (written by cut.py).
-/
import Derived.Test.YtgjjdfhoakailaaGreatOStL
import Derived.Test.YtgjjdfhoakailaaGreatOStP6
import Derived.Test.YtgjjdfhoakailaaGreatOStN3
import Derived.Test.YtgjjdfhoakailaaGreatOStO3
namespace Go.Proofs.YtgjjdfhoakailaaGreat
open Go.RowKit Go.Maps Go.Sort Go.Shelf
set_option linter.unusedVariables false
set_option linter.unusedSimpArgs false

/-- ref26's state in memory. -/
structure RfIs (w : World) (B xs n m c : Nat) (A : Option Addr) (l : List It) : Prop where
  blk : Blk w xs 80 #[.int .i64 (n : Int), .slice A m c]
  own : w.ownsRow B 56 73 (.slice A m c) m (itsC l)
  len : l.length = m
  high : n ≤ 512
section
variable {w w' : World} {B xs n m c : Nat} {A : Option Addr} {l : List It}
theorem RfIs.src (h : RfIs w B xs n m c A l) : Src w 73 (.slice A m c) m (itsC l) := Src.of_own h.own
theorem RfIs.below (h : RfIs w B xs n m c A l) (hb : Below w.heap.size w w') : RfIs w' B xs n m c A l := ⟨h.blk.below hb h.blk.lt, own_belowR h.own hb, h.len, h.high⟩
theorem RfIs.c1 (h : RfIs w B xs n m c A l) : w.cell? ⟨xs, 1, none⟩ = some (.slice A m c) := h.blk.cell rfl
end
section
variable {P : Program} {w : World} {ops : Array Oper} {rest : List Oper} {o : Oper} {a : Act} {Q : Exit → Act → World → Prop}
/-- An empty slice literal. -/
theorem wpl_lit0 (hg : o.guard = none) (t e : TypeId) (hop : o.op = .buildSlice t 0 #[]) (hu : P.underlying t = some (.slice e)) {z : Value} {sz bytes : Nat}
    (hi : (P.info? e).map (fun i => (i.zero, i.size, i.bytes)) = some (some z, sz, bytes)) (base : Nat) (hbase : base ≤ w.heap.size)
    (hK : ∀ v w1, w1.ownsRow base e sz v 0 [] → w.grownBy w1 none → wpList P ops Q rest (a.put o.dst v) w1) : wpList P ops Q (o :: rest) a w := by
  obtain ⟨i0, hi', hz0, hz1, hz2⟩ := info_parts hi
  refine wpList_plain hg fun K hK2 => ?_
  unfold Oper.wp execOp
  have hr : (Instr.buildSlice t 0 (Array.map (fun x : Nat × Operand => (x.1, a.eval x.2)) #[])).run P w = .ok (.slice (some ⟨w.heap.size, 0, none⟩) 0 0) (w.alloc (.cells #[] e)) := by
    have e0 : Array.range 0 = #[] := by simp
    simp [Instr.buildSlice, run_underlying hu, sizeOf, typeInfo, hi', Instr.fill, newRow]
    rw [e0]
    simp
  simp only [hop, Sem.run_bind, hr, Result.andThen_ok]
  refine hK2 _ _ (hK _ _ ?_ (World.grownBy_alloc w _ none))
  exact ⟨by simp, .inr ⟨w.heap.size, 0, #[], rfl, hbase, Blk.made _ _ _, Nat.le_refl _, Nat.zero_le _, by simp, by simp⟩⟩
end
theorem blk_rng {w w' : World} {b o : Nat} {vs : List Value} (h : w.rangeAt b o vs) (hb : Below w.heap.size w w') (hv : 0 < vs.length) : w'.rangeAt b o vs := by
  have hlt : b < w.heap.size := by
    obtain ⟨v, hv⟩ : ∃ v, vs[0]? = some v := ⟨vs[0], List.getElem?_eq_getElem hv⟩
    exact block_lt_of_cell (h 0 v hv)
  exact fun j v hv => (World.cell?_of_block (a := ⟨b, o + j, none⟩) (hb.block b hlt)).trans (h j v hv)
end Go.Proofs.YtgjjdfhoakailaaGreat
namespace Go.Proofs.YtgjjdfhoakailaaGreat
open Go.RowKit Go.Maps Go.Sort Go.Shelf
set_option linter.unusedVariables false
set_option linter.unusedSimpArgs false

end Go.Proofs.YtgjjdfhoakailaaGreat
namespace Go.Proofs.YtgjjdfhoakailaaGreat
open Go.RowKit Go.Maps Go.Sort Go.Shelf
set_option linter.unusedVariables false
set_option linter.unusedSimpArgs false

section
variable {w : World} {B xs n m c : Nat} {A : Option Addr} {l : List It}
end
end Go.Proofs.YtgjjdfhoakailaaGreat
namespace Go.Proofs.YtgjjdfhoakailaaGreat
open Go.RowKit Go.Maps Go.Sort Go.Shelf
set_option linter.unusedVariables false
set_option linter.unusedSimpArgs false
section
variable {w : World} {B xs n m c : Nat} {A : Option Addr} {l : List It}
end
end Go.Proofs.YtgjjdfhoakailaaGreat
