/-
  what this claim needs of: StG, StH, StJ (written by cut.py).
-/
import Derived.Test.YtgjjdfhoakailaaGreatBStL
import Derived.Test.YtgjjdfhoakailaaGreatBStK1
import Derived.Test.YtgjjdfhoakailaaGreatBStO3
import Derived.Laws.IdiomStrings
import Derived.Test.YtgjjdfhoakailaaGreatBStQ1
import Derived.Test.YtgjjdfhoakailaaGreatBStD
namespace Go.Proofs.YtgjjdfhoakailaaGreat
open Go.RowKit Go.Maps Go.Sort Go.Shelf
set_option linter.unusedVariables false
set_option linter.unusedSimpArgs false

/-- ref26's state in memory. -/
structure RfIs (w : World) (B xs n m c : Nat) (A : Option Addr) (l : List It) : Prop where
  blk : Blk w xs 80 #[.int .i64 (n : Int), .slice A m c]
  own : w.ownsRow B 56 73 (.slice A m c) m (itsC l)
  len : l.length = m
  high : n ≤ 512
section
variable {w w' : World} {B xs n m c : Nat} {A : Option Addr} {l : List It}
end
section
variable {P : Program} {w : World} {ops : Array Oper} {rest : List Oper} {o : Oper} {a : Act} {Q : Exit → Act → World → Prop}
/-- An empty slice literal. -/
theorem wpl_lit0 (hg : o.guard = none) (t e : TypeId) (hop : o.op = .buildSlice t 0 #[]) (hu : P.underlying t = some (.slice e)) {z : Value} {sz bytes : Nat}
    (hi : (P.info? e).map (fun i => (i.zero, i.size, i.bytes)) = some (some z, sz, bytes)) (base : Nat) (hbase : base ≤ w.heap.size)
    (hK : ∀ v w1, w1.ownsRow base e sz v 0 [] → w.grownBy w1 none → wpList P ops Q rest (a.put o.dst v) w1) : wpList P ops Q (o :: rest) a w := by
  obtain ⟨i0, hi', hz0, hz1, hz2⟩ := info_parts hi
  refine wpList_plain hg fun K hK2 => ?_
  unfold Oper.wp execOp
  have hr : (Instr.buildSlice t 0 (Array.map (fun x : Nat × Operand => (x.1, a.eval x.2)) #[])).run P w = .ok (.slice (some ⟨w.heap.size, 0, none⟩) 0 0) (w.alloc (.cells #[] e)) := by
    have e0 : Array.range 0 = #[] := by simp
    simp [Instr.buildSlice, run_underlying hu, sizeOf, typeInfo, hi', Instr.fill, newRow]
    rw [e0]
    simp
  simp only [hop, Sem.run_bind, hr, Result.andThen_ok]
  refine hK2 _ _ (hK _ _ ?_ (World.grownBy_alloc w _ none))
  exact ⟨by simp, .inr ⟨w.heap.size, 0, #[], rfl, hbase, Blk.made _ _ _, Nat.le_refl _, Nat.zero_le _, by simp, by simp⟩⟩
end
theorem blk_rng {w w' : World} {b o : Nat} {vs : List Value} (h : w.rangeAt b o vs) (hb : Below w.heap.size w w') (hv : 0 < vs.length) : w'.rangeAt b o vs := by
  have hlt : b < w.heap.size := by
    obtain ⟨v, hv⟩ : ∃ v, vs[0]? = some v := ⟨vs[0], List.getElem?_eq_getElem hv⟩
    exact block_lt_of_cell (h 0 v hv)
  exact fun j v hv => (World.cell?_of_block (a := ⟨b, o + j, none⟩) (hb.block b hlt)).trans (h j v hv)
end Go.Proofs.YtgjjdfhoakailaaGreat
namespace Go.Proofs.YtgjjdfhoakailaaGreat
open Go.RowKit Go.Maps Go.Sort Go.Shelf
set_option linter.unusedVariables false
set_option linter.unusedSimpArgs false

end Go.Proofs.YtgjjdfhoakailaaGreat
namespace Go.Proofs.YtgjjdfhoakailaaGreat
open Go.RowKit Go.Maps Go.Sort Go.Shelf
set_option linter.unusedVariables false
set_option linter.unusedSimpArgs false

section
variable {w : World} {B xs n m c : Nat} {A : Option Addr} {l : List It}
end
end Go.Proofs.YtgjjdfhoakailaaGreat
namespace Go.Proofs.YtgjjdfhoakailaaGreat
open Go.RowKit Go.Maps Go.Sort Go.Shelf
set_option linter.unusedVariables false
set_option linter.unusedSimpArgs false
section
variable {w : World} {B xs n m c : Nat} {A : Option Addr} {l : List It}
end
end Go.Proofs.YtgjjdfhoakailaaGreat
namespace Go.Proofs.YtgjjdfhoakailaaGreat
open Go.RowKit Go.Maps Go.Sort Go.Shelf Go.Lib
set_option linter.unusedVariables false
set_option linter.unusedSimpArgs false

end Go.Proofs.YtgjjdfhoakailaaGreat
namespace Go.Proofs.YtgjjdfhoakailaaGreat
open Go.RowKit Go.Maps Go.Sort Go.Shelf
set_option linter.unusedVariables false
set_option linter.unusedSimpArgs false

theorem flat_len {α : Type} {enc : α → List Value} {sz : Nat} (hk : ∀ x, (enc x).length = sz) (l : List α) : (l.flatMap enc).length = l.length * sz := fm_length hk l
/-- An element of an owned row is stored. -/
theorem wpl_store_own {α : Type} {enc : α → List Value} {sz : Nat} (hk : ∀ x, (enc x).length = sz) (hone : ∀ x, ∀ v ∈ enc x, v.oneCell' = true) {P : Program} {ops : Array Oper} {rest : List Oper} {op : Oper} {a : Act} {Q : Exit → Act → World → Prop} {w : World} (hgd : op.guard = none) (ty : TypeId) (x y : Operand) (ho : op.op = .store ty x y) (base g j n c q : Nat) (E : TypeId) (l : List α) (i : α) (hx : a.eval x = .pointer (some ⟨g, q, none⟩)) (hq : q = j * sz) (hy : a.eval y = .agg (enc i).toArray)
    (hown : w.ownsRow base E sz (.slice (some ⟨g, 0, none⟩) n c) n (l.flatMap enc)) (hl : l.length = n) (hj : j < n) (hinf : (P.info? ty).map (·.size) = some sz)
    (h : ∀ w1, w1.ownsRow base E sz (.slice (some ⟨g, 0, none⟩) n c) n ((l.set j i).flatMap enc) → w.grownBy w1 (some g) → wpList P ops Q rest (a.put op.dst undef) w1) : wpList P ops Q (op :: rest) a w := by
  subst hq
  have hmul : (j + 1) * sz ≤ n * sz := Nat.mul_le_mul_right _ hj
  rw [Nat.succ_mul] at hmul
  have hjl : j < l.length := by omega
  rcases hown.2 with ⟨h0, _⟩ | ⟨g', cap, cur, hv', hb, hg, hnc, hcm, hcs, ht⟩
  · cases h0
  · injection hv' with a1 a2 a3
    injection a1 with a1
    injection a1 with a1
    subst a1 a3
    have hB : Blk w g E cur := hg
    have hcn : n * sz ≤ c * sz := Nat.mul_le_mul_right _ hnc
    have hel : l.flatMap enc = (l.take j).flatMap enc ++ (enc l[j] ++ (l.drop (j + 1)).flatMap enc) := by
      have e : l = l.take j ++ l[j] :: l.drop (j + 1) := by rw [← List.drop_eq_getElem_cons hjl, List.take_append_drop]
      conv => lhs; rw [e]
      rw [List.flatMap_append, List.flatMap_cons]
    have hes : (l.set j i).flatMap enc = (l.take j).flatMap enc ++ (enc i ++ (l.drop (j + 1)).flatMap enc) := by
      rw [List.set_eq_take_append_cons_drop, if_pos hjl, List.flatMap_append, List.flatMap_cons]
    have hF : ((l.take j).flatMap enc).length = j * sz := by rw [flat_len hk, List.length_take, Nat.min_eq_left (by omega)]
    have hlenS : ((l.set j i).flatMap enc).length = n * sz := by rw [flat_len hk, List.length_set, hl]
    have hcur : cur.toList = (l.take j).flatMap enc ++ (enc l[j] ++ ((l.drop (j + 1)).flatMap enc ++ cur.toList.drop (n * sz))) := by
      have e2 : cur.toList = l.flatMap enc ++ cur.toList.drop (n * sz) := by
        conv => lhs; rw [← List.take_append_drop (n * sz) cur.toList]
        rw [ht]
      conv => lhs; rw [e2, hel]
      rw [List.append_assoc, List.append_assoc]
    have hput : (putAt cur (j * sz) (enc i)).toList = (l.set j i).flatMap enc ++ cur.toList.drop (n * sz) := by
      have e3 := put_mid (l := cur.toList) (l' := (l.set j i).flatMap enc ++ cur.toList.drop (n * sz)) ((l.take j).flatMap enc) ((l.drop (j + 1)).flatMap enc ++ cur.toList.drop (n * sz)) (enc l[j]) (enc i) (j * sz) hcur (by rw [hes, List.append_assoc, List.append_assoc]) hF (by rw [hk, hk])
      rw [Array.toArray_toList] at e3
      rw [e3, toArr]
    refine wpList_store_mid hgd ty x y ho g (j * sz) (enc i).toArray hx hy (hB.isThere (j * sz) _ (by simp [hk]; omega)) (by rw [hinf]; simp [hk]) (by have := all_oneCell_toArray (hone i); simpa using this) (h _ ⟨hlenS, .inr ⟨g, c, _, rfl, hb, Blk.puts (enc i) w cur (j * sz) hB, hnc, hcm, by rw [size_putAt]; exact hcs, ?_⟩⟩ (grown_setCells (g := g) (enc i) w (j * sz)).1)
    rw [hput, List.take_left' hlenS]
theorem it_i73 : (Tryz.prog.info? 56).map (·.size) = some 73 := by kernel_rfl
end Go.Proofs.YtgjjdfhoakailaaGreat
namespace Go.Proofs.YtgjjdfhoakailaaGreat
open Go.RowKit Go.Maps Go.Sort Go.Shelf
set_option linter.unusedVariables false
set_option linter.unusedSimpArgs false

end Go.Proofs.YtgjjdfhoakailaaGreat
namespace Go.Proofs.YtgjjdfhoakailaaGreat
open Go.RowKit Go.Maps Go.Sort Go.Shelf
set_option linter.unusedVariables false
set_option linter.unusedSimpArgs false

instance : DecidableEq Fr := fun a b => decidable_of_iff ((a.key, a.pl) = (b.key, b.pl)) (by cases a; cases b; simp)
instance : DecidableEq Pu := fun a b => decidable_of_iff ((a.unit, a.sl) = (b.unit, b.sl)) (by cases a; cases b; simp)
end Go.Proofs.YtgjjdfhoakailaaGreat
namespace Go.Proofs.YtgjjdfhoakailaaGreat
open Go.RowKit Go.Maps Go.Sort Go.Shelf
set_option linter.unusedVariables false
set_option linter.unusedSimpArgs false

end Go.Proofs.YtgjjdfhoakailaaGreat
namespace Go.Proofs.YtgjjdfhoakailaaGreat
open Go.RowKit Go.Maps Go.Sort Go.Shelf
set_option linter.unusedVariables false
set_option linter.unusedSimpArgs false

section
variable {w w' : World} {base : Nat} {o : OpV} {ga ca gb cb : Nat}
end
end Go.Proofs.YtgjjdfhoakailaaGreat
namespace Go.Proofs.YtgjjdfhoakailaaGreat
open Go.RowKit Go.Maps Go.Sort Go.Shelf
set_option linter.unusedVariables false
set_option linter.unusedSimpArgs false

/-- The two states, side by side. -/
structure Two (w0 w : World) (si xi bx mi bs xs n m c : Nat) (A : Option Addr) (l : List It) (E : ExM) (f : MpF) (M : SnM) : Prop where
  st : StO w0 w si xi bx mi bs n E f M
  rf : RfIs w w0.heap.size xs n m c A l
  perm : l.Perm (stItems n E f M)
  lo : w0.heap.size ≤ xs
section
variable {w0 w w' : World} {si xi bx mi bs xs n m c : Nat} {A : Option Addr} {l : List It} {E : ExM} {f : MpF} {M : SnM}
end
end Go.Proofs.YtgjjdfhoakailaaGreat
namespace Go.Proofs.YtgjjdfhoakailaaGreat
open Go.RowKit Go.Maps Go.Sort Go.Shelf
set_option linter.unusedVariables false
set_option linter.unusedSimpArgs false

end Go.Proofs.YtgjjdfhoakailaaGreat
