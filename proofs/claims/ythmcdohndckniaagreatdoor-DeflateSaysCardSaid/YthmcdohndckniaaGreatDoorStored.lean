/-
  inflate's stored blocks, walked.
  inflate's tables, as package variables: what lies in their blocks; that a stream leaves them alone.
-/
import Derived.Test.YthmcdohndckniaaGreatDoorStream
namespace Go.Proofs.YthmcdohndckniaaGreatDoor
open Go.RowKit
set_option linter.unusedVariables false

theorem bytesR_succ (bt : List Int) (p n : Nat) : bytesR bt p (n + 1) = bytesR bt p n ++ [(numOf ((bt.drop (p + 8 * n)).take 8) : Int)] := by simp [bytesR, List.range_succ]
theorem bytesR_len (bt : List Int) (p n : Nat) : (bytesR bt p n).length = n := by simp [bytesR]
theorem src_u8 (W : World) (t : TypeId) (y : Value) : Src (W.alloc (.cells #[y] t)) 1 (.slice (some ⟨W.heap.size, 0, none⟩) 1 1) 1 [y] :=
  ⟨_, 1, rfl, rfl, fun _ => ⟨W.heap.size, 0, rfl, by simp, fun j u hu => by rw [Nat.zero_add, (Blk.made W t #[y]).cellq]; simpa using hu⟩⟩

theorem took_or {e : Int} {T : Res Nat} {v p' : Nat} {e' : Int} (h : Took e T v p' e') : (T = .ok v p' ∧ e' = e) ∨ (∃ b, T = .bad b ∧ v = 0 ∧ e' = if e = 0 then errOf b else e) := by
  cases T with
  | ok a q => exact .inl ⟨by rw [h.1, h.2.1], h.2.2⟩
  | bad b => exact .inr ⟨b, rfl, h⟩
theorem numR_bad {bt : List Int} {p n : Nat} {b : Bool} (h : numR bt p n = .bad b) : b = false := by
  unfold numR at h
  split at h
  · cases h
  · injection h with h; exact h.symm
/-- Both numbers, read one behind the other. -/
theorem stored_two {bt : List Int} {a n p2 m p3 : Nat} {e2 e3 : Int} {F : Nat → Nat → Nat → Res (List Int)} {T : Res (List Int)} (hT : T = (numR bt a 16).bind fun n p => (numR bt p 16).bind fun m p => F n m p)
    (h2 : Took 0 (numR bt a 16) n p2 e2) (h3 : Took e2 (numR bt p2 16) m p3 e3) : (e3 = 4 ∧ T = .bad false) ∨ (e3 = 0 ∧ T = F n m p3) := by
  rcases took_or h2 with ⟨k2, rfl⟩ | ⟨b, k2, _, hh⟩
  · rcases took_or h3 with ⟨k3, rfl⟩ | ⟨b, k3, _, hh⟩
    · right
      rw [k2] at hT
      simp only [Res.bind] at hT
      rw [k3] at hT
      exact ⟨rfl, hT⟩
    · left
      obtain rfl := numR_bad k3
      rw [k2] at hT
      simp only [Res.bind] at hT
      rw [k3] at hT
      exact ⟨hh, hT⟩
  · obtain rfl := numR_bad k2
    rw [if_pos rfl] at hh
    have e4 : e2 = 4 := hh
    left
    rw [k2] at hT
    refine ⟨?_, hT⟩
    rcases took_or h3 with ⟨_, h⟩ | ⟨b, _, _, h⟩
    · rw [h, e4]
    · rw [h, e4]; rfl

end Go.Proofs.YthmcdohndckniaaGreatDoor
namespace Go.Proofs.YthmcdohndckniaaGreatDoor
open Go.RowKit
set_option linter.unusedVariables false

def TabAt (w : World) (g : Nat) (l : List Int) : Prop := ∀ i, i < l.length → w.cell? ⟨g, i, none⟩ = some (.int .i64 (l.getD i 0))
theorem TabAt.keep {w w' : World} {g : Nat} {l : List Int} (h : TabAt w g l) (hk : w'.heap[g]? = w.heap[g]?) : TabAt w' g l := fun i hi => (World.cell?_of_block (a := ⟨g, i, none⟩) hk).trans (h i hi)
theorem lb_bd : ∀ i, i < 29 → 3 ≤ lbases.getD i 0 ∧ lbases.getD i 0 ≤ 258 ∧ 0 ≤ lbits.getD i 0 ∧ lbits.getD i 0 ≤ 5 := by decide
theorem db_bd : ∀ i, i < 30 → 1 ≤ dbases.getD i 0 ∧ dbases.getD i 0 ≤ 24577 ∧ 0 ≤ dbits.getD i 0 ∧ dbits.getD i 0 ≤ 13 := by decide
end Go.Proofs.YthmcdohndckniaaGreatDoor
