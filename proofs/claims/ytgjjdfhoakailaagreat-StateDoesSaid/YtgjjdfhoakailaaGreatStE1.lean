/-
  entry: within, four: walked; an entry's block.
-/
import Derived.Test.YtgjjdfhoakailaaGreatStQ1
import Derived.Test.YtgjjdfhoakailaaGreatStS1
import Derived.Laws.IdiomCopy
namespace Go.Proofs.YtgjjdfhoakailaaGreat
open Go.RowKit Go.Maps Go.Sort Go.Shelf
set_option linter.unusedVariables false
set_option linter.unusedSimpArgs false

/-- An entry's block: 80 bytes. -/
def EntB (w : World) (eb : Nat) : Prop := ∃ zs : List Int, zs.length = 80 ∧ Blk w eb 155 (zs.map (Value.int .u8)).toArray
theorem EntB.lt {w : World} {eb : Nat} (h : EntB w eb) : eb < w.heap.size := by obtain ⟨_, _, h⟩ := h; exact h.lt
theorem EntB.below {w w' : World} {eb : Nat} (h : EntB w eb) (hb : Below w.heap.size w w') : EntB w' eb := by
  obtain ⟨zs, h1, h2⟩ := h
  exact ⟨zs, h1, h2.below hb h2.lt⟩
theorem EntB.grown {w w' : World} {eb : Nat} {row : Option Nat} (h : EntB w eb) (hb : w.grownBy w' row) (hg : some eb ≠ row) : EntB w' eb := by
  obtain ⟨zs, h1, h2⟩ := h
  exact ⟨zs, h1, h2.grown hb hg⟩
theorem EntB.cell {w : World} {eb : Nat} (h : EntB w eb) {j : Nat} (hj : j < 80) : ∃ z : Int, w.cell? ⟨eb, j, none⟩ = some (.int .u8 z) ∧ w.frozen? ⟨eb, j, none⟩ = false := by
  obtain ⟨zs, h1, h2⟩ := h
  refine ⟨zs[j]'(by omega), h2.cell ?_, h2.free j⟩
  rw [List.getElem?_toArray, List.getElem?_map, List.getElem?_eq_getElem (by omega)]
  rfl
theorem EntB.put {w : World} {eb : Nat} (h : EntB w eb) (j : Nat) (z : Int) : EntB (w.setCell ⟨eb, j, none⟩ (.int .u8 z)) eb := by
  obtain ⟨zs, h1, h2⟩ := h
  refine ⟨zs.set j z, by simpa using h1, ?_⟩
  have := h2.put j (.int .u8 z)
  rw [List.map_set]
  simpa using this
theorem EntB.puts {w : World} {eb : Nat} (h : EntB w eb) (o : Nat) (ks : List Int) (ho : o + ks.length ≤ 80) : EntB (w.setCells eb o (ks.map (Value.int .u8))) eb := by
  obtain ⟨zs, h1, h2⟩ := h
  refine ⟨zs.take o ++ ks ++ zs.drop (o + ks.length), by simp; omega, ?_⟩
  have := Blk.puts (ks.map (Value.int .u8)) w _ o h2
  rw [putAt_list _ _ _ (by simp; omega)] at this
  simpa [List.map_take, List.map_drop] using this
section
variable {P : Program} {w : World} {ops : Array Oper} {rest : List Oper} {o : Oper} {a : Act} {Q : Exit → Act → World → Prop}
/-- An operation whose answer is known. -/
theorem wpl_val (hg : o.guard = none) (v : Value) (hr : (execOp a.eval o).run P w = .ok (.value v) w) (hK : wpList P ops Q rest (a.put o.dst v) w) : wpList P ops Q (o :: rest) a w := by
  refine wpList_plain hg fun K' hK' => ?_
  unfold Oper.wp
  rw [hr]
  exact hK' _ _ hK
end
section
variable {w : World} {ops : Array Oper} {rest : List Oper} {o : Oper} {a : Act} {Q : Exit → Act → World → Prop}
/-- A key is copied into an entry. -/
theorem wpl_ecopy (hg : o.guard = none) (d s : Operand) (hop : o.op = .call { callee := .builtin .copy, args := #[d, s], argTypes := #[106, 106] }) (eb off dl dc b2 o2 : Nat) (K : Key) (he : EntB w eb) (hd : a.eval d = .slice (some ⟨eb, off, none⟩) dl dc) (hs : a.eval s = .slice (some ⟨b2, o2, none⟩) 32 32) (hr : w.rangeAt b2 o2 (keyL K))
    (hl : 32 ≤ dl) (ho : off + 32 ≤ 80) (hK : ∀ w1, EntB w1 eb → w.grownBy w1 (some eb) → wpList Tryz.prog ops Q rest (a.put o.dst (.int .i64 32)) w1) : wpList Tryz.prog ops Q (o :: rest) a w := by
  refine wpList_plain hg fun K' hK' => ?_
  have hmin : (keyL K).length = Nat.min 32 dl := by rw [keyL_len]; exact (Nat.min_eq_left hl).symm
  have hrun := run_copy_cells (P := Tryz.prog) w 106 106 o.type 5 eb off dl dc ⟨b2, o2, none⟩ 32 32 (keyL K) Tryz.underlying106 (by kernel_rfl) hmin
    (fun j v hj => by rw [Addr.add_mid]; exact hr j v hj) (fun j hj => by rw [keyL_len] at hj; obtain ⟨z, h1, _⟩ := he.cell (j := off + j) (by omega); rw [h1]; rfl) (fun j hj => by rw [keyL_len] at hj; exact (he.cell (j := off + j) (by omega)).choose_spec.2) (keyL_one K)
  have hg2 := (grown_setCells (g := eb) (keyL K) w off).1
  have he2 : EntB (w.setCells eb off (keyL K)) eb := he.puts off K.1 (by rw [K.2.1]; omega)
  rw [keyL_len] at hrun
  unfold Oper.wp
  simp [execOp, hop, resolve, invoke, builtin, hd, hs, hrun, Result.andThen]
  exact hK' _ _ (hK _ he2 hg2)
end
theorem slice_tkey (eb : Nat) (W : World) : (Instr.sliceAt 152 (.pointer (some ⟨eb, 0, none⟩)) (some (.int .i64 1)) none none).run Tryz.prog W = .ok (.slice (some ⟨eb, 1, none⟩) 39 39) W := by
  have hu : Tryz.prog.underlying 152 = some (.array (Tryz.prog.arrayLen 152) (Tryz.prog.elem 152)) := by kernel_rfl
  have hl : Tryz.prog.arrayLen 152 = 40 := by kernel_rfl
  have he : Tryz.prog.elem 152 = 5 := by kernel_rfl
  rw [run_sliceAt_array_l W _ _ hu _ _ (by omega) (by rw [hl]; omega), hl, he, Tryz.sizeOf5]
  simp only [Result.andThen_ok, slicedAt]
  simp [Addr.add_mid]
theorem slice_tval (eb : Nat) (W : World) : (Instr.sliceAt 153 (.pointer (some ⟨eb, 40, none⟩)) none none none).run Tryz.prog W = .ok (.slice (some ⟨eb, 40, none⟩) 40 40) W := by
  have hu : Tryz.prog.underlying 153 = some (.array (Tryz.prog.arrayLen 153) (Tryz.prog.elem 153)) := by kernel_rfl
  have hl : Tryz.prog.arrayLen 153 = 40 := by kernel_rfl
  have he : Tryz.prog.elem 153 = 5 := by kernel_rfl
  rw [run_sliceAt_array_all W _ _ hu, hl, he, Tryz.sizeOf5]
  simp only [Result.andThen_ok, slicedAt]
  simp [Addr.add_mid]
theorem entWithin_any (n a b : Int) (w : World) : Calls Tryz.prog 117 #[.int .i64 n, .int .i64 a, .int .i64 b] w fun e w' => e = .returned (.bool (decide (a ≤ n ∧ n ≤ b))) ∧ w = w' := by
  by_cases h1 : a ≤ n
  · by_cases h2 : n ≤ b
    · rw [decide_eq_true (And.intro h1 h2)]
      go_enter Tryz.func117, Tryz.ntmps117
      go_wp2
      go_ret
      simp [h1, h2]
    · rw [decide_eq_false (fun h => h2 h.2)]
      go_enter Tryz.func117, Tryz.ntmps117
      go_wp2
      go_ret
      simp [h1, h2]
  · rw [decide_eq_false (fun h => h1 h.1)]
    go_enter Tryz.func117, Tryz.ntmps117
    go_wp2
    go_ret
    simp [h1]
set_option maxHeartbeats 1000000 in
theorem four_any {w : World} {eb : Nat} (h : EntB w eb) (off len cap : Nat) (x : Int) (hl : 4 ≤ len) (ho : off + 4 ≤ 80) :
    Calls Tryz.prog 118 #[.slice (some ⟨eb, off, none⟩) len cap, .int .i64 x] w fun e w' => e = .returned (.tuple #[]) ∧ EntB w' eb ∧ w.grownBy w' (some eb) := by
  have H := Lib.hid h
  clear h
  go_enter Tryz.func118, Tryz.ntmps118
  go_upto_region 1 with fail
  go_loopg [5] 4 (fun k iv wr => ∃ i : Nat, iv = .int .i64 (i : Int) ∧ i ≤ 4 ∧ i + k ≤ 4 ∧ 4 ≤ i + k ∧ EntB wr eb ∧ w.grownBy wr (some eb))
  case atStart => exact ⟨0, rfl, by omega, by omega, by omega, H.out, World.grownBy.refl _ _⟩
  case round =>
    obtain ⟨i, rfl, i1, i2, i3, he, hg⟩ := hrel
    have HE := Lib.hid he
    have G := Lib.hid hg
    clear he hg H
    by_cases hi : i < 4
    · obtain ⟨z, cz, fz⟩ := HE.out.cell (j := off + i) (by omega)
      have hi4 : i = 0 ∨ i = 1 ∨ i = 2 ∨ i = 3 := by omega
      rcases hi4 with rfl | rfl | rfl | rfl
      all_goals
        (try simp only [Nat.add_zero] at cz fz)
        go_wp2_with fail
        go_roundg (gk - 1)
        case measure => omega
        case rel => first | exact ⟨1, rfl, by omega, by omega, by omega, HE.out.put _ _, G.out.trans (grown_put _ _ _)⟩ | exact ⟨2, rfl, by omega, by omega, by omega, HE.out.put _ _, G.out.trans (grown_put _ _ _)⟩ | exact ⟨3, rfl, by omega, by omega, by omega, HE.out.put _ _, G.out.trans (grown_put _ _ _)⟩ | exact ⟨4, rfl, by omega, by omega, by omega, HE.out.put _ _, G.out.trans (grown_put _ _ _)⟩
    · have e : i = 4 := by omega
      subst e
      go_wp2_with fail
      go_end0
      exact ⟨rfl, HE.out, G.out⟩
end Go.Proofs.YtgjjdfhoakailaaGreat
