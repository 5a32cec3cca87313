/-
  what this claim needs of: StM7 (written by cut.py).
-/
import Derived.Test.YtgjjdfhoakailaaGreatBStM
import Derived.Test.YtgjjdfhoakailaaGreatBLayg
namespace Go.Proofs.YtgjjdfhoakailaaGreat
open Go.RowKit Go.Maps Go.Sort Go.Shelf
set_option linter.unusedVariables false
set_option linter.unusedSimpArgs false

theorem own_lo {w : World} {base base' : Nat} {e : TypeId} {size n : Nat} {v : Value} {xs : List Value} (h : w.ownsRow base' e size v n xs) (hb : base ≤ base') : w.ownsRow base e size v n xs := by
  refine ⟨h.1, h.2.imp id ?_⟩
  rintro ⟨g, cap, cur, e1, a1, r⟩
  exact ⟨g, cap, cur, e1, Nat.le_trans hb a1, r⟩
theorem sortsA (m : Nat) : AnyZI.SortsIn Tryz.prog Tryz.sortedA_ren Fence.wide m :=
  ⟨fun blk off cap ss W hH hblk hsz => callsIn_wide.2 (AnyM.slices_Sort_int Tryz.sortA blk off cap ss W hH hblk hsz),
   fun p cap W => callsIn_wide.2 (AnyM.slices_Sort_int_none Tryz.sortA p cap W)⟩
def sIds (M : SnM) : List Int := (M.map (·.1)).mergeSort leI
theorem sIds_perm (M : SnM) : (sIds M).Perm (M.map (·.1)) := List.mergeSort_perm _ _
theorem sIds_len (M : SnM) : (sIds M).length = M.length := by rw [(sIds_perm M).length_eq, List.length_map]
def IdsPost (M : SnM) (w : World) (e : Ending) (w' : World) : Prop := ∃ v, e = .returned v ∧ w'.ownsRow w.heap.size 3 1 v M.length ((sIds M).map (Value.int .i64)) ∧ (v = .slice none 0 0 ↔ M = []) ∧ Below w.heap.size w w'
set_option maxHeartbeats 1000000 in
theorem ids_any {w : World} {mi bs n : Nat} {f : MpF} {M : SnM} (h : MapsIs w mi bs n f M) (hM : M.length ≤ 1000000) : Calls Tryz.prog 28 #[.pointer (some ⟨mi, 0, none⟩)] w (IdsPost M w) := by
  have c0 := h.s_cell
  obtain ⟨es, hown, hp, hk, hu⟩ := h.map
  have hbl := hown.lt
  have hsize : Maps.size (DataW.map es) = M.length := by rw [Maps.size_eq, hp.length_eq, List.length_map]
  have hkeys : (intKeys (DataW.map es)).Perm (M.map (·.1)) := by
    unfold intKeys
    have := hp.map (fun p : Lit × DataW Value => (intKeys (.map [p])).headD 0)
    rw [List.map_map] at this
    exact this
  have hmax : Maps.size (DataW.map es) ≤ maxLen := by rw [hsize]; unfold maxLen; omega
  have hbytes : Maps.size (DataW.map es) * 8 ≤ 140737488355328 := by rw [hsize]; omega
  refine (callsIn_wide (n := 6)).1 ?_
  have hseq : SeqGives Fence.wide 2 Tryz.prog 108 #[.pointer (some ⟨w.heap.size, 0, none⟩)] encZ (fun ss => ss.Perm (intKeys (DataW.map es))) (Maps.size (DataW.map es)) (w.alloc (.cells #[.map (some bs)] 118)) :=
    AnyZI.keys_gives (ρ := Tryz.keysA_ren) { Tryz.keysA with } Fence.wide _ trivial rfl (by omega) w.heap.size bs _ (DataW.map es) _ (by simp) (by simp) (by
      obtain ⟨es, clock, hb, Ft, hs, hD⟩ := hown
      exact ⟨es, clock, (Below.heap_alloc _ _ bs hbl).trans hb, Ft, hs, hD⟩)
  have cK : ∀ mb W, CallsIn Fence.wide 5 Tryz.prog 74 #[.map mb] W fun e w' => e = .returned (.func (.func 108) #[] #[.pointer (some ⟨W.heap.size, 0, none⟩)]) ∧ w' = W.alloc (.cells #[.map mb] 118) := fun mb W => AnyZI.keys_in Tryz.keysA Fence.wide 5 trivial rfl mb W
  have cS := AnyZI.sorted_in Tryz.sortedA Fence.wide 5 trivial trivial trivial trivial rfl (by omega) (sortsA _) (enters_of Tryz.func107 (by kernel_rfl) rfl) 108 #[.pointer (some ⟨w.heap.size, 0, none⟩)] trivial (enters_of Tryz.func108 (by kernel_rfl) rfl) _ _ hmax hbytes _ hseq
  change CallsIn _ _ Tryz.prog 73 _ _ _ at cS
  have hfK : Fence.wide.fn 74 := trivial
  have hfS : Fence.wide.fn 73 := trivial
  have HS := Lib.hid hsize
  have HK := Lib.hid hkeys
  have HH := Lib.hid h
  clear hsize hkeys hown hp hk hu h hseq hmax hbytes hM hbl
  refine callsIn_of_wp Tryz.func28 rfl trivial ?_ rfl
  simp only [Tryz.ntmps28, List.size_toArray, List.length_cons, List.length_nil, Nat.reduceAdd, Nat.reduceSub, Array.replicate_succ, Array.replicate_zero, List.push_toArray, List.append_toArray, List.nil_append, List.cons_append]
  gi_wp2_with (first
    | (gi_at_call 74; refine (cK _ _).mono ?_; rintro e w' ⟨rfl, rfl⟩)
    | (gi_at_call 73; refine cS.mono ?_; rintro e w' ⟨v, ss, rfl, hS, hrow, hnil, hb⟩; have H1 := Lib.hid hS; have H2 := Lib.hid hrow; have H3 := Lib.hid hnil; have H4 := Lib.hid hb; clear hS hrow hnil hb))
  go_ret
  have hP := H1.out.trans HK.out
  have hl : ss.length = M.length := by rw [hP.length_eq, List.length_map]
  have hrow := H2.out
  have e1 : ss.mergeSort (fun x y => decide (x ≤ y)) = sIds M := mergeSort_of_perm_i hP
  rw [e1, hl] at hrow
  refine ⟨v, rfl, own_lo hrow (by simp), ?_, ((Below.refl _ w).alloc (Nat.le_refl _) _).trans (H4.out.mono (by simp))⟩
  rw [H3.out]
  constructor
  · intro h; rw [h] at hl; exact List.length_eq_zero_iff.1 hl.symm
  · intro h; rw [h] at hl; exact List.length_eq_zero_iff.1 hl
end Go.Proofs.YtgjjdfhoakailaaGreat
