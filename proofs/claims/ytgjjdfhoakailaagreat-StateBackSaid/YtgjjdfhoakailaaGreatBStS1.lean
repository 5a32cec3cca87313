/-
  what this claim needs of: StS1 (written by cut.py).
-/
import Derived.Test.YtgjjdfhoakailaaGreatBStO3
import Derived.Test.YtgjjdfhoakailaaGreatBStX5
import Derived.Test.YtgjjdfhoakailaaGreatBStM8
import Derived.Test.YtgjjdfhoakailaaGreatBStC
namespace Go.Proofs.YtgjjdfhoakailaaGreat
open Go.RowKit Go.Maps Go.Sort Go.Shelf
set_option linter.unusedVariables false
set_option linter.unusedSimpArgs false

abbrev stC (n : Int) (x m : Option Addr) : Array Value := #[.int .i64 n, .pointer x, .pointer m]
structure StIs (w : World) (si xi bx mi bs n : Nat) (E : ExM) (f : MpF) (M : SnM) : Prop where
  blk : Blk w si 61 (stC n (some ⟨xi, 0, none⟩) (some ⟨mi, 0, none⟩))
  idx : IdxIs w xi bx E
  maps : MapsIs w mi bs n f M
  ne : bx ≠ bs
section
variable {w w' : World} {si xi bx mi bs n : Nat} {E : ExM} {f : MpF} {M : SnM}
theorem StIs.tch {T : List Nat} (h : StIs w si xi bx mi bs n E f M) (hb : Tch T w w') (h0 : si ∉ T) (h1 : xi ∉ T) (h2 : bx ∉ T) (h3 : mi ∉ T) (h4 : bs ∉ T) (h5 : ∀ p ∈ M, p.2.1 ∉ T) : StIs w' si xi bx mi bs n E f M :=
  ⟨h.blk.tch hb h0, h.idx.tch hb h1 h2, h.maps.tch hb h3 h4 h5, h.ne⟩
theorem StIs.below (h : StIs w si xi bx mi bs n E f M) (hb : Below w.heap.size w w') : StIs w' si xi bx mi bs n E f M := h.tch (T := []) (Tch.below hb) (by simp) (by simp) (by simp) (by simp) (by simp) (by simp)
theorem StIs.drew (h : StIs w si xi bx mi bs n E f M) : StIs w.drew si xi bx mi bs n E f M := h.below (Below.refl _ _).drew
theorem StIs.c0 (h : StIs w si xi bx mi bs n E f M) : w.cell? ⟨si, 0, none⟩ = some (.int .i64 (n : Int)) := h.blk.cell rfl
theorem StIs.c1 (h : StIs w si xi bx mi bs n E f M) : w.cell? ⟨si, 1, none⟩ = some (.pointer (some ⟨xi, 0, none⟩)) := h.blk.cell rfl
theorem StIs.c2 (h : StIs w si xi bx mi bs n E f M) : w.cell? ⟨si, 2, none⟩ = some (.pointer (some ⟨mi, 0, none⟩)) := h.blk.cell rfl
/-- The blocks that an op turns are none of the others. -/
theorem StIs.apart (h : StIs w si xi bx mi bs n E f M) : si ≠ xi ∧ si ≠ bx ∧ si ≠ mi ∧ si ≠ bs ∧ xi ≠ bx ∧ xi ≠ mi ∧ xi ≠ bs ∧ mi ≠ bx ∧ mi ≠ bs :=
  ⟨blk_ne_ty h.blk h.idx.blk (by decide), blk_ne_map h.idx.map h.blk, blk_ne_ty h.blk h.maps.blk (by decide), blk_ne_map h.maps.map h.blk, blk_ne_map h.idx.map h.idx.blk, blk_ne_ty h.idx.blk h.maps.blk (by decide), blk_ne_map h.maps.map h.idx.blk, blk_ne_map h.idx.map h.maps.blk, blk_ne_map h.maps.map h.maps.blk⟩
theorem StIs.newMaps {f' : MpF} {M' : SnM} {T : List Nat} (h : StIs w si xi bx mi bs n E f M) (hm : MapsIs w' mi bs n f' M') (hb : Tch T w w') (hT : ∀ k ∈ T, k = mi ∨ k = bs) : StIs w' si xi bx mi bs n E f' M' := by
  have ha := h.apart
  have hne := h.ne
  have g : ∀ k, k ≠ mi → k ≠ bs → k ∉ T := fun k h1 h2 hk => by rcases hT k hk with e | e; exact h1 e; exact h2 e
  exact ⟨h.blk.tch hb (g _ ha.2.2.1 ha.2.2.2.1), h.idx.tch hb (g _ ha.2.2.2.2.2.1 ha.2.2.2.2.2.2.1) (g _ (fun e => ha.2.2.2.2.2.2.2.1 e.symm) hne), hm, hne⟩
theorem StIs.newIdx {E' : ExM} {T : List Nat} (h : StIs w si xi bx mi bs n E f M) (hx : IdxIs w' xi bx E') (hb : Tch T w w') (hT : ∀ k ∈ T, k = bx) : StIs w' si xi bx mi bs n E' f M := by
  have ha := h.apart
  have hne := h.ne
  have g : ∀ k, k ≠ bx → k ∉ T := fun k h1 hk => h1 (hT k hk)
  exact ⟨h.blk.tch hb (g _ ha.2.1), hx, h.maps.tch hb (g _ ha.2.2.2.2.2.2.2.1) (g _ (fun e => hne e.symm)) (fun p hp => g _ (blk_ne_map h.idx.map (h.maps.each p hp))), hne⟩
end
theorem built_st (n : Int) (x m : Option Addr) : Tryz.prog.built 61 [(0, .int .i64 n), (1, .pointer x), (2, .pointer m)] = some (stC n x m) := by kernel_rfl
def StNewPost (n : Nat) (w : World) (e : Ending) (w' : World) : Prop := ∃ si xi bx mi bs, e = .returned (.pointer (some ⟨si, 0, none⟩)) ∧ StIs w' si xi bx mi bs n [] zF [] ∧ Below w.heap.size w w' ∧ w.heap.size ≤ si ∧ w.heap.size ≤ xi ∧ w.heap.size ≤ bx ∧ w.heap.size ≤ mi ∧ w.heap.size ≤ bs
theorem st_new (k : Nat) (hk : 1 ≤ k ∧ k ≤ 512) (w : World) : Calls Tryz.prog 11 #[.int .i64 (k : Int)] w (StNewPost k w) := by
  have HK := Lib.hid hk
  clear hk
  go_enter Tryz.func11, Tryz.ntmps11
  go_wp2_with (first
    | (go_at_call 35; refine (maps_new k HK.out w).mono ?_; rintro e w1 ⟨mi, bs, rfl, hm, h1, h2, hb⟩; have M1 := Lib.hid hm; have A1 := Lib.hid (And.intro h1 h2); have L1 := Lib.hid hb; clear hm h1 h2 hb)
    | (go_at_call 36; refine (idx_new w1).mono ?_; rintro e w2 ⟨xi, bx, rfl, hx, h1, h2, hb⟩; have X2 := Lib.hid hx; have A2 := Lib.hid (And.intro h1 h2); have L2 := Lib.hid hb; clear hx h1 h2 hb)
    | ((with_reducible show wpList _ _ _ (_ :: _) _ _); refine wpl_mk rfl 61 #[(0, .tmp 8), (1, .tmp 9), (2, .tmp 10)] rfl [(0, .int .i64 (k : Int)), (1, .pointer (some ⟨xi, 0, none⟩)), (2, .pointer (some ⟨mi, 0, none⟩))] rfl _ (built_st _ _ _) ?_)
    | ((with_reducible show wpList _ _ _ (_ :: _) _ _); refine wpl_box rfl 61 (.tmp 11) rfl _ rfl ?_; intro w3 hk hg hz; have K := Lib.hid hk; have G := Lib.hid hg; clear hk hg hz))
  go_ret
  have hL2 : Below w1.heap.size w1 w2 := L2.out
  have hw1 := L1.out.size
  have hw2 := L2.out.size
  have hbx := X2.out.map.lt
  have hbs := M1.out.map.lt
  have hA2 := A2.out
  have hA1 := A1.out
  refine ⟨w2.heap.size, xi, bx, mi, bs, rfl, ⟨K.out, X2.out.grown G.out, (M1.out.below hL2).grown G.out, by omega⟩, bl_n (below_chain L1.out hL2) G.out, by omega, by omega, by omega, by omega, by omega⟩
theorem st_there {w : World} {si xi bx mi bs n : Nat} {E : ExM} {f : MpF} {M : SnM} (h : StIs w si xi bx mi bs n E f M) : Calls Tryz.prog 40 #[.pointer (some ⟨si, 0, none⟩)] w fun e w' => e = .returned (.bool true) ∧ w = w' := by
  have c0 := h.c0
  have hn : 0 < n := h.maps.low
  clear h
  go_enter Tryz.func40, Tryz.ntmps40
  go_wp2
  go_ret
  exact ⟨rfl, rfl⟩
theorem st_index {w : World} {si xi bx mi bs n : Nat} {E : ExM} {f : MpF} {M : SnM} (h : StIs w si xi bx mi bs n E f M) : Calls Tryz.prog 22 #[.pointer (some ⟨si, 0, none⟩)] w fun e w' => e = .returned (.pointer (some ⟨xi, 0, none⟩)) ∧ w = w' := by
  have H := Lib.hid h
  have c1 := h.c1
  clear h
  go_enter Tryz.func22, Tryz.ntmps22
  go_wp2_with (go_at_call 40; refine (st_there H.out).mono ?_; rintro e w1 ⟨rfl, rfl⟩)
  go_ret
  exact ⟨rfl, rfl⟩
end Go.Proofs.YtgjjdfhoakailaaGreat
