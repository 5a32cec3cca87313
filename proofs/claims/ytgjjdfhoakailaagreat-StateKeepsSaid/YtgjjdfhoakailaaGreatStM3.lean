/-
  maps: New, Set, Snap, Drop, Back: walked.
-/
import Derived.Test.YtgjjdfhoakailaaGreatStM2
import Derived.KernelRfl
namespace Go.Proofs.YtgjjdfhoakailaaGreat
open Go.RowKit Go.Maps
set_option linter.unusedVariables false
set_option linter.unusedSimpArgs false

def zF : MpF := fun _ => zSl
def cellAt (j : Nat) : Value := if j = 0 then .int .i64 0 else if j = 17409 then .map none else if (j - 1) % 34 < 32 then .int .u8 0 else .int .i64 0
def eqv : Value → Value → Bool
  | .int .i64 0, .int .i64 0 => true
  | .int .u8 0, .int .u8 0 => true
  | .map none, .map none => true
  | _, _ => false
theorem eqv_eq {x y : Value} (h : eqv x y = true) : x = y := by
  unfold eqv at h
  split at h
  · rfl
  · rfl
  · rfl
  · cases h
def chkAt (n : Nat) : List Value → Nat → Bool
  | [], j => Nat.beq j n
  | v :: r, j => match eqv v (cellAt j) with | true => chkAt n r (Nat.succ j) | false => false
theorem chkAt_get {n : Nat} : ∀ (l : List Value) (j : Nat), chkAt n l j = true → j + l.length = n ∧ ∀ i, i < l.length → l[i]? = some (cellAt (j + i))
  | [], j, h => ⟨by simpa using Nat.eq_of_beq_eq_true h, fun i hi => by simp at hi⟩
  | v :: r, j, h => by
    unfold chkAt at h
    split at h
    · rename_i hv
      obtain ⟨h1, h2⟩ := chkAt_get r (Nat.succ j) h
      refine ⟨by rw [List.length_cons]; omega, fun i hi => ?_⟩
      rcases i with _ | i
      · rw [eqv_eq hv]; rfl
      · rw [List.getElem?_cons_succ, h2 i (by simpa using hi)]
        congr 2
        omega
    · cases h
theorem chk_maps : chkAt 17410 Tryz.zeroCells123.toList 0 = true := by kernel_rfl
theorem zSl_cell (r : Nat) (hr : r < 34) : (slC zSl)[r]? = some (if r < 32 then .int .u8 0 else .int .i64 0) := by
  unfold slC
  rcases Nat.lt_or_ge r 32 with h | h
  · rw [List.getElem?_append_left (by rw [keyL_len]; exact h), if_pos h]
    show (List.map (Value.int .u8) (List.replicate 32 0))[r]? = _
    rw [List.map_replicate, List.getElem?_replicate, if_pos h]
  · rw [List.getElem?_append_right (by rw [keyL_len]; exact h), keyL_len, if_neg (by omega)]
    rcases (by omega : r = 32 ∨ r = 33) with rfl | rfl <;> rfl
theorem zero_maps : Tryz.zeroCells123 = (.int .i64 0 :: (oneC zF ++ [.map none]) : List Value).toArray := by
  obtain ⟨h1, h2⟩ := chkAt_get _ _ chk_maps
  apply Array.ext'
  rw [toArr]
  apply List.ext_getElem?
  intro j
  rcases Nat.lt_or_ge j 17410 with hj | hj
  · rw [h2 j (by omega), Nat.zero_add]
    unfold cellAt
    rcases j with _ | j
    · rfl
    · rw [if_neg (by omega), List.getElem?_cons_succ]
      rcases Nat.lt_or_ge j 17408 with hj2 | hj2
      · rw [if_neg (by omega), List.getElem?_append_left (by rw [oneC_len]; exact hj2)]
        have hc := oneC_cell zF (j / 34) (j % 34) (by omega) (by omega)
        rw [List.getElem?_toArray, show j / 34 * 34 + j % 34 = j by omega] at hc
        rw [hc]
        show _ = (slC zSl)[j % 34]?
        rw [zSl_cell _ (by omega), Nat.add_sub_cancel]
      · have : j = 17408 := by omega
        subst this
        rw [if_pos rfl, List.getElem?_append_right (by rw [oneC_len]; exact Nat.le_refl _), oneC_len]
        rfl
  · rw [List.getElem?_eq_none (by omega), List.getElem?_eq_none (by simp [oneC_len]; omega)]
theorem built_maps (n : Int) (m : Value) (hm : m.cells.toList = [m]) : Tryz.prog.built 123 [(0, .int .i64 n), (2, m)] = some (.int .i64 n :: (oneC zF ++ [m]) : List Value).toArray := by
  have e : Tryz.prog.built 123 [(0, .int .i64 n), (2, m)] = Instr.fill ([(0, 1), (1, 17408), (17409, 1)].toArray[·]?) Tryz.zeroCells123 [(0, .int .i64 n), (2, m)] := by kernel_rfl
  rw [e, zero_maps, fill_cons 0 [.int .i64 n] rfl rfl (by simp), fill_cons 17409 [m] hm rfl (by rw [size_putAt]; simp [oneC_len])]
  unfold Instr.fill
  refine congrArg some ?_
  rw [putAt_list _ _ _ (by rw [size_putAt]; simp [oneC_len])]
  refine congrArg List.toArray ?_
  rw [putAt_list _ _ _ (by simp), toArr, toArr]
  simp only [List.take_zero, List.nil_append, List.length_singleton, Nat.zero_add, List.cons_append]
  rw [List.drop_succ_cons, List.drop_zero, List.take_succ_cons, List.drop_succ_cons, List.take_left' (oneC_len _), List.drop_eq_nil_of_le (by simp [oneC_len])]
  simp
def NewSome (n : Nat) (w : World) (e : Ending) (w' : World) : Prop := ∃ mi bs, e = .returned (.pointer (some ⟨mi, 0, none⟩)) ∧ MapsIs w' mi bs n zF [] ∧ w.heap.size ≤ mi ∧ w.heap.size ≤ bs ∧ Below w.heap.size w w'
theorem maps_new (k : Nat) (hk : 1 ≤ k ∧ k ≤ 512) (w : World) : Calls Tryz.prog 35 #[.int .i64 (k : Int)] w (NewSome k w) := by
  have g1 : ¬ (k : Int) < 1 := by omega
  have g2 : ¬ 512 < (k : Int) := by omega
  have HK := Lib.hid hk
  clear hk
  have hmm := @run_makeMap Tryz.prog
  go_enter Tryz.func35, Tryz.ntmps35
  go_wp2_with (first
    | ((with_reducible show wpList _ _ _ (_ :: _) _ _); refine wpl_mk rfl 123 #[(0, .tmp 9), (2, .tmp 10)] rfl [(0, .int .i64 (k : Int)), (2, .map (some w.heap.size))] rfl _ (built_maps _ _ rfl) ?_)
    | ((with_reducible show wpList _ _ _ (_ :: _) _ _); refine wpl_box rfl 123 (.tmp 11) rfl _ rfl ?_; intro w1 hk hg hz; have K := Lib.hid hk; have G := Lib.hid hg; clear hk hg hz))
  go_ret
  refine ⟨w.heap.size + 1, w.heap.size, rfl, ⟨?_, ?_, fun p hp => by simp at hp, HK.out.1, HK.out.2⟩, Nat.le_succ _, Nat.le_refl _, ?_⟩
  · have := K.out
    rw [show (w.alloc (Obj.map #[] 0)).heap.size = w.heap.size + 1 by simp] at this
    exact this
  · exact (MapIs.made w _ _ _ _ _).kept G.out (by simp)
  · exact bl_n ((Below.refl _ _).alloc (Nat.le_refl _) _) G.out
theorem maps_none (n : Int) (hn : n < 1 ∨ 512 < n) (w : World) : Calls Tryz.prog 35 #[.int .i64 n] w fun e w' => e = .returned (.pointer none) ∧ w' = w := by
  by_cases h1 : n < 1
  · clear hn
    go_enter Tryz.func35, Tryz.ntmps35
    go_wp2
    go_ret
    exact ⟨rfl, rfl⟩
  · have h2 : 512 < n := by omega
    clear hn
    go_enter Tryz.func35, Tryz.ntmps35
    go_wp2
    go_ret
    exact ⟨rfl, rfl⟩
end Go.Proofs.YtgjjdfhoakailaaGreat
