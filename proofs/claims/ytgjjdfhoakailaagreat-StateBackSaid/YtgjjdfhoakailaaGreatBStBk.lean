/-
  what this claim needs of: StBk (written by cut.py).
-/
import Derived.Test.YtgjjdfhoakailaaGreatBStIW
import Derived.Test.YtgjjdfhoakailaaGreatBStD
namespace Go.Proofs.YtgjjdfhoakailaaGreat
open Go.RowKit Go.Maps Go.Sort Go.Shelf
set_option linter.unusedVariables false
set_option linter.unusedSimpArgs false

theorem makes_perm {n : Nat} (hn : n ≤ 512) {E : ExM} {f : MpF} {M : SnM} (hI : Inv n E f M) {l : List It} (hp : l.Perm (stItems n E f M)) : makesB (n : Int) l = true := by
  have hB := stItems_B hn hI
  have hk := MkOk.of hB (inv_makes hn hI)
  have hb : ∀ i ∈ l, ItB i := fun i hi => hB i (hp.mem_iff.1 hi)
  have hr : ∀ i ∈ l, rightI i = true := fun i hi => hk.right i (hp.mem_iff.1 hi)
  have hnd : (l.map stT).Nodup := (hp.map stT).nodup_iff.2 hk.nd
  unfold makesB
  simp only [Bool.and_eq_true, decide_eq_true_eq, List.all_eq_true]
  refine ⟨⟨⟨hr, hnd⟩, fun i hi => ?_⟩, ?_⟩
  · have hi' := hp.mem_iff.1 hi
    have h2 := hk.ok i hi'
    rw [← ok_same hb hr hnd hi]
    rw [← ok_same hB hk.right hk.nd hi'] at h2
    rw [← h2]
    unfold okR
    rw [Perm.cnt hp, Perm.snapB hp, ext_perm hI.uniq hI.uniqM hI.ids hp, ext_perm hI.uniq hI.uniqM hI.ids (.refl _)]
  · rw [snaps_perm hp]
    exact hI.len
section
variable {w0 w w' : World} {si xi bx mi bs sj xj bj mj bt n : Nat} {E E2 : ExM} {f f2 : MpF} {M M2 : SnM}
/-- The blocks that one state's ops turn are none of the other's. -/
theorem StO.beside (h : StO w0 w si xi bx mi bs n E f M) (k : StO w0 w sj xj bj mj bt n E2 f2 M2) (ha : ∀ x ∈ [bj, mj, bt], x ∉ [bx, mi, bs]) (hT : Tch [bx, mi, bs] w w') : StO w0 w' sj xj bj mj bt n E2 f2 M2 := by
  have g : ∀ {b : Nat} {t : TypeId} {cs : Array Value}, Blk w b t cs → t ≠ 123 → b ∉ [bx, mi, bs] := fun hb ht hm => by
    have e1 := blk_ne_map h.st.idx.map hb
    have e2 := blk_ne_ty hb h.st.maps.blk ht
    have e3 := blk_ne_map h.st.maps.map hb
    simp at hm
    rcases hm with rfl | rfl | rfl
    · exact e1 rfl
    · exact e2 rfl
    · exact e3 rfl
  refine ⟨k.st.tch hT (g k.st.blk (by decide)) (g k.st.idx.blk (by decide)) (ha _ (by simp)) (ha _ (by simp)) (ha _ (by simp)) (fun p hp => g (k.st.maps.each p hp) (by decide)), k.inv, k.low.trans (hT.toBelow k.low.size (fun x hx => ?_)), k.lo⟩
  have := h.lo
  simp at hx
  omega
theorem do_alike (hn : n ≤ 512) (h : Inv n E f M) (k : Inv n E2 f2 M2) (he : stItems n E f M = stItems n E2 f2 M2) {o : OpV} {r r2 : Int} {E' E2' : ExM} {f' f2' : MpF} {M' M2' : SnM}
    (hd : DoR n E f M o r E' f' M') (kd : DoR n E2 f2 M2 o r2 E2' f2' M2') : r = r2 ∧ stItems n E' f' M' = stItems n E2' f2' M2' := by
  have h1 := do_perm hn h (.refl _) hd
  have h2 := do_perm hn k (.refl _) kd
  rw [← he] at h2
  have i1 := (do_inv hn h hd).1
  have i2 := (do_inv hn k kd).1
  exact ⟨h1.1.symm.trans h2.1, sorted_eq (st_sorted i1.uniq i1.uniqM i1.ids) (st_sorted i2.uniq i2.uniqM i2.ids) (h1.2.symm.trans h2.2)⟩
structure Bk (w0 w : World) (si xi bx mi bs sj xj bj mj bt n : Nat) (E : ExM) (f : MpF) (M : SnM) (E2 : ExM) (f2 : MpF) (M2 : SnM) : Prop where
  s : StO w0 w si xi bx mi bs n E f M
  t : StO w0 w sj xj bj mj bt n E2 f2 M2
  eq : stItems n E f M = stItems n E2 f2 M2
  ap : ∀ x ∈ [bj, mj, bt], x ∉ [bx, mi, bs]
theorem Bk.below (h : Bk w0 w si xi bx mi bs sj xj bj mj bt n E f M E2 f2 M2) (hb : Below w.heap.size w w') : Bk w0 w' si xi bx mi bs sj xj bj mj bt n E f M E2 f2 M2 := ⟨h.s.below hb, h.t.below hb, h.eq, h.ap⟩
end
end Go.Proofs.YtgjjdfhoakailaaGreat
