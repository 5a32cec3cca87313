/-
  strings.Split, Join, CopyTexts, as LinesNumbers asks them.
-/
import Derived.Test.YtfehgpjnlkgekaaGreatDoorLnW
import Derived.Lib.SplitLaws
namespace Go.Proofs.YtfehgpjnlkgekaaGreatDoor
open Go.RowKit
set_option linter.unusedVariables false
set_option linter.unusedSimpArgs false

/-- Strings in memory, from a block's beginning on. -/
def StrAt (w : World) (g : Nat) (xs : List ByteArray) : Prop := ∀ j x, xs[j]? = some x → w.cell? ⟨g, j, none⟩ = some (.string x)
theorem StrAt.below {w w' : World} {g : Nat} {xs : List ByteArray} (h : StrAt w g xs) (hb : Below w.heap.size w w') : StrAt w' g xs := fun j x hx => cell_low (h j x hx) hb
theorem StrAt.lt {w : World} {g : Nat} {xs : List ByteArray} (h : StrAt w g xs) (hn : 0 < xs.length) : g < w.heap.size := by
  have := block_lt_of_cell (h 0 xs[0] (List.getElem?_eq_getElem hn))
  exact this
theorem StrAt.at {w : World} {g : Nat} {xs : List ByteArray} (h : StrAt w g xs) {j : Nat} (hj : j < xs.length) : w.cell? ⟨g, j, none⟩ = some (.string xs[j]) := h j _ (List.getElem?_eq_getElem hj)
theorem splitB_sizes (sep : ByteArray) : ∀ (k : Nat) (s x : ByteArray), x ∈ Lib.splitB sep 0 k s → x.size ≤ s.size
  | 0, s, x, h => by
    rw [Lib.splitB_zero] at h
    rw [List.mem_singleton.1 h]
    exact Nat.le_refl _
  | k + 1, s, x, h => by
    unfold Lib.splitB at h
    split at h
    · rw [List.mem_singleton.1 h]
      exact Nat.le_refl _
    · rcases List.mem_cons.1 h with rfl | h
      · rw [ByteArray.size_extract]; omega
      · have := splitB_sizes sep k _ x h
        rw [ByteArray.size_extract] at this
        omega
def SplitPost (s : ByteArray) (w : World) (e : Ending) (w' : World) : Prop :=
  ∃ ws, e = .returned (.slice (some ⟨w.heap.size, 0, none⟩) ws.length ws.length) ∧ StrAt w' w.heap.size ws ∧ 0 < ws.length ∧ ws.length ≤ s.size + 1 ∧ (∀ x ∈ ws, x.size ≤ s.size) ∧ Below w.heap.size w w'
theorem split_any (s sep : ByteArray) (w : World) (ht : LnT w) (hs : s.size ≤ 1000000) (h1 : 1 ≤ sep.size) :
    Calls Tryz.prog 10 #[.string s, .string sep] w (SplitPost s w) := by
  obtain ⟨m, hm⟩ := ht.mx
  refine (Tryz.strings_Split s sep m w (by omega) hm h1).mono ?_
  rintro e w' ⟨rfl, rfl⟩
  have hl := Lib.splitB_all sep h1 0 (Lib.countB s sep) s rfl
  have hc := Lib.countB_le sep h1 s.size s (Nat.le_refl _)
  refine ⟨Lib.splitB sep 0 (Lib.countB s sep) s, by rw [hl], fun j x hx => ?_, by omega, by omega, fun x hx => splitB_sizes sep _ s x hx, (Below.refl _ _).alloc (Nat.le_refl _) _⟩
  refine (Blk.made w _ _).cell ?_
  rw [List.getElem?_toArray, List.getElem?_map, hx]
  rfl
theorem joinTail_le (sep : List UInt8) (M : Nat) : ∀ (r : List (List UInt8)), (∀ x ∈ r, x.length ≤ M) → (Lib.joinTail sep r).length ≤ r.length * (M + sep.length)
  | [], _ => by simp [Lib.joinTail]
  | x :: r, h => by
    have h1 := joinTail_le sep M r (fun y hy => h y (List.mem_cons_of_mem _ hy))
    have h2 := h x (List.mem_cons_self ..)
    have e : Lib.joinTail sep (x :: r) = (sep ++ x) ++ Lib.joinTail sep r := by simp [Lib.joinTail]
    rw [e, List.length_append, List.length_append, List.length_cons, Nat.succ_mul]
    omega
theorem join_le (xs : List (List UInt8)) (sep : List UInt8) (M : Nat) (h : ∀ x ∈ xs, x.length ≤ M) : (Lib.join xs sep).length ≤ xs.length * (M + sep.length) := by
  cases xs with
  | nil => simp [Lib.join_nil]
  | cons x r =>
    rw [Lib.join_cons, List.length_append, List.length_cons, Nat.succ_mul]
    have h1 := joinTail_le sep M r (fun y hy => h y (List.mem_cons_of_mem _ hy))
    have h2 := h x (List.mem_cons_self ..)
    omega
theorem len_ba' (s : ByteArray) : s.data.toList.length = s.size := by rw [Array.length_toList]; rfl
/-- Join of a part of a list of strings. -/
theorem join_any (g o n c : Nat) (xs : List ByteArray) (w : World) (M : Nat) (h : ∀ j x, xs[j]? = some x → w.cell? ⟨g, o + j, none⟩ = some (.string x)) (hg : g < w.heap.size) (hn : n = xs.length) (hnm : n ≤ 100000) (hc : n ≤ c) (hM : ∀ x ∈ xs, x.size ≤ M) (hMM : M ≤ 100000) :
    Calls Tryz.prog 11 #[.slice (some ⟨g, o, none⟩) n c, .string ⟨#[32]⟩] w fun e w' => ∃ s : ByteArray, e = .returned (.string s) ∧ s.size ≤ 100000 * 100001 ∧ Below w.heap.size w w' := by
  subst hn
  have hl : (Lib.join (xs.map (·.data.toList)) [32]).length ≤ xs.length * (M + 1) := by
    have := join_le (xs.map (·.data.toList)) [32] M (fun x hx => by
      obtain ⟨y, hy, rfl⟩ := List.mem_map.1 hx
      rw [len_ba']
      exact hM y hy)
    simpa using this
  have hb : xs.length * (M + 1) ≤ 100000 * 100001 := Nat.mul_le_mul hnm (by omega)
  refine (Tryz.strings_Join g o c xs ⟨#[32]⟩ w h hg (by omega) hc (by
    show (Lib.join (xs.map (·.data.toList)) [32]).length ≤ _
    omega)).mono ?_
  rintro e w' ⟨rfl, hbw⟩
  refine ⟨_, rfl, ?_, hbw⟩
  have : (⟨(Lib.join (xs.map (·.data.toList)) [32]).toArray⟩ : ByteArray).size = (Lib.join (xs.map (·.data.toList)) [32]).length := by rw [← len_ba']
  exact Nat.le_trans (Nat.le_of_eq this) (Nat.le_trans hl hb)
theorem infoStr2 : (Tryz.prog.info? 9).map (fun i => (i.zero, i.size, i.bytes)) = some (some (.string ⟨#[]⟩), 1, 16) := by kernel_rfl
theorem copyTexts_any (g n c : Nat) (xs : List ByteArray) (w : World) (h : StrAt w g xs) (hn : n = xs.length) (hn0 : 0 < n) (hn1 : n ≤ 1000000) :
    Calls Tryz.prog 12 #[.slice (some ⟨g, 0, none⟩) n c] w fun e w' => ∃ g' c', e = .returned (.slice (some ⟨g', 0, none⟩) n c') ∧ w'.ownsRow w.heap.size 9 1 (.slice (some ⟨g', 0, none⟩) n c') n (xs.map Value.string) ∧ Below w.heap.size w w' := by
  subst hn
  have HS := Lib.hid (show Src w 1 (.slice (some ⟨g, 0, none⟩) xs.length c) xs.length (xs.map Value.string) from ⟨_, c, rfl, by simp, fun _ => ⟨g, 0, rfl, h.lt hn0, fun j y hy => by
    rw [List.getElem?_map] at hy
    cases hx : xs[j]? with
    | none => rw [hx] at hy; cases hy
    | some x =>
      rw [hx] at hy
      injection hy with hy
      subst hy
      rw [Nat.zero_add]
      exact h j x hx⟩⟩)
  clear h
  go_enter Tryz.func12, Tryz.ntmps12
  go_wp2_with (refine app_src rfl (.tmp 4) (.tmp 5) 36 rfl w.heap.size 9 _ 1 16 Tryz.underlying36 infoStr2 rfl (by omega) _ 0 [] rfl (World.ownsRow_nil _ _ _ _) _ xs.length (xs.map Value.string) rfl HS.out (by simp [Value.oneCell']) (by omega) (by omega) (Nat.le_refl _) ?_; intro v2 w2 ho2 hg2 hor2; have O2 := Lib.hid ho2; have G2 := Lib.hid hg2; clear ho2 hg2 hor2)
  go_ret
  rw [Nat.zero_add, List.nil_append] at O2
  obtain ⟨g', c', hv, _, _⟩ := O2.out.form hn0
  subst hv
  exact ⟨g', c', rfl, O2.out, (Below.refl _ _).grown G2.out (Nat.le_refl _) (fun k hk => by cases hk)⟩
end Go.Proofs.YtfehgpjnlkgekaaGreatDoor
