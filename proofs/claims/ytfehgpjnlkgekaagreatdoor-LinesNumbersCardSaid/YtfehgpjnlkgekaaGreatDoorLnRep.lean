/-
  lines: a long line of noughts, read by the plain law.
-/
import Derived.Test.YtfehgpjnlkgekaaGreatDoorLnRs
import Derived.Lib.Repeat
namespace Go.Proofs.YtfehgpjnlkgekaaGreatDoor
open Go.RowKit
set_option linter.unusedVariables false
set_option linter.unusedSimpArgs false

theorem words_plain2 : ∀ (a : List UInt8), 32 ∉ a → wordsL a = [a]
  | [], _ => by simp [wordsL]
  | c :: r, h => by
    have h1 := words_plain2 r (fun hm => h (List.mem_cons_of_mem _ hm))
    rw [words_other (fun e => h (by rw [e]; exact List.mem_cons_self ..)), h1]
    rfl
theorem words_cut2 : ∀ (a r : List UInt8), 32 ∉ a → wordsL (a ++ 32 :: r) = a :: wordsL r
  | [], r, _ => words_space r
  | c :: a, r, h => by
    have h1 := words_cut2 a r (fun hm => h (List.mem_cons_of_mem _ hm))
    rw [List.cons_append, words_other (fun e => h (by rw [e]; exact List.mem_cons_self ..)), h1]
    rfl
theorem rep_no : ∀ k, 32 ∉ Lib.repeatL [48, 48] k
  | 0 => by simp [Lib.repeatL]
  | k + 1 => by
    have := rep_no k
    simp [Lib.repeatL, this]
theorem rep_pairs : ∀ k, pairsL (Lib.repeatL [48, 48] k) = some (List.replicate k 0)
  | 0 => rfl
  | k + 1 => by
    show pairsL (48 :: 48 :: Lib.repeatL [48, 48] k) = _
    unfold pairsL
    rw [rep_pairs k]
    rfl
theorem rep_unhex (k : Nat) : unhexL (Lib.repeatL [48, 48] (k + 1)) = some (List.replicate (k + 1) 0) := by
  have h1 : Lib.repeatL [48, 48] (k + 1) ≠ noneW := by
    show 48 :: 48 :: Lib.repeatL [48, 48] k ≠ _
    unfold noneW
    intro h
    injection h with h _
    exact absurd h (by decide)
  have h2 : Lib.repeatL [48, 48] (k + 1) ≠ [] := by
    show 48 :: 48 :: Lib.repeatL [48, 48] k ≠ _
    simp
  unfold unhexL
  rw [if_neg h1, if_neg h2, rep_pairs]
theorem step_long0 (k : Nat) : stepL ([119, 114, 105, 116, 101, 32, 49, 32] ++ Lib.repeatL [48, 48] (k + 1)) = some ⟨2, 1, 0, 0, List.replicate (k + 1) 0, []⟩ := by
  have hw : wordsL ([119, 114, 105, 116, 101, 32, 49, 32] ++ Lib.repeatL [48, 48] (k + 1)) = [[119, 114, 105, 116, 101], [49], Lib.repeatL [48, 48] (k + 1)] := by
    rw [show [119, 114, 105, 116, 101, 32, 49, 32] ++ Lib.repeatL [48, 48] (k + 1) = [119, 114, 105, 116, 101] ++ 32 :: ([49] ++ 32 :: Lib.repeatL [48, 48] (k + 1)) from rfl, words_cut2 _ _ (by decide), words_cut2 _ _ (by decide), words_plain2 _ (rep_no _)]
  have hu := rep_unhex k
  have hn : numL [49] = some 1 := by kernel_rfl
  generalize Lib.repeatL [48, 48] (k + 1) = R at *
  unfold stepL
  rw [hw]
  simp only
  unfold readL
  rw [show shapeL [119, 114, 105, 116, 101] = (2, [97, 98]) by kernel_rfl]
  simp only [List.length_cons, List.length_nil]
  rw [if_neg (by decide), if_neg (by simp)]
  have f1 : fieldX 97 0 [[49], R] (zeroS 2) = some ⟨2, 1, 0, 0, [], []⟩ := by
    simp [fieldX, fieldL, hn, zeroS]
  have f2 : fieldX 98 1 [[49], R] ⟨2, 1, 0, 0, [], []⟩ = some ⟨2, 1, 0, 0, List.replicate (k + 1) 0, []⟩ := by
    simp [fieldX, fieldL, hu]
  unfold followX
  rw [f1]
  simp only
  unfold followX
  rw [f2]
  simp only
  unfold followX
  rfl
theorem step_short0 (k : Nat) : stepL ([114, 105, 116, 101, 32, 49, 32] ++ Lib.repeatL [48, 48] k) = none := by
  have hw : wordsL ([114, 105, 116, 101, 32, 49, 32] ++ Lib.repeatL [48, 48] k) = [[114, 105, 116, 101], [49], Lib.repeatL [48, 48] k] := by
    rw [show [114, 105, 116, 101, 32, 49, 32] ++ Lib.repeatL [48, 48] k = [114, 105, 116, 101] ++ 32 :: ([49] ++ 32 :: Lib.repeatL [48, 48] k) from rfl, words_cut2 _ _ (by decide), words_cut2 _ _ (by decide), words_plain2 _ (rep_no _)]
  unfold stepL
  rw [hw]
  simp only
  unfold readL
  rw [if_pos (by kernel_rfl)]
theorem size_more (L : ByteArray) (b : UInt8) : (L ++ ⟨#[b]⟩).size = L.size + 1 := by rw [ByteArray.size_append]; rfl
/-- The long line, its like with a digit more, its like without its first byte. -/
theorem long_facts (k : Nat) (R : ByteArray) (hR : R = ⟨(Lib.repeatL [48, 48] (k + 1)).toArray⟩) (L : ByteArray) (hL : L = ⟨#[119, 114, 105, 116, 101, 32, 49, 32]⟩ ++ R) :
    L.size = 2 * (k + 1) + 8 ∧ stepL L.data.toList = some ⟨2, 1, 0, 0, List.replicate (k + 1) 0, []⟩ ∧ stepL (L.extract 1 L.size).data.toList = none := by
  have h1 : L.data.toList = [119, 114, 105, 116, 101, 32, 49, 32] ++ Lib.repeatL [48, 48] (k + 1) := by
    rw [hL, hR]
    simp [ByteArray.data_append]
  have h2 : L.size = 2 * (k + 1) + 8 := by
    rw [← len_ba, h1, List.length_append, Lib.repeatL_length]
    simp
    omega
  refine ⟨h2, by rw [h1]; exact step_long0 k, ?_⟩
  have h3 : (L.extract 1 L.size).data.toList = L.data.toList.drop 1 := by
    rw [sub_str L L.data.toList rfl 1 L.size, List.take_of_length_le (by rw [len_ba]; exact Nat.le_refl _)]
  rw [h3, h1]
  exact step_short0 (k + 1)
end Go.Proofs.YtfehgpjnlkgekaaGreatDoor
