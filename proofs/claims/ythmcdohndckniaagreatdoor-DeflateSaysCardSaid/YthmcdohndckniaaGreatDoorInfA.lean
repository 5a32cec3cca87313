/-
  inflate's matches, walked.
  inflate's coded blocks, walked.
  inflate's fixed lengths, walked.
-/
import Derived.Test.YthmcdohndckniaaGreatDoorStored
namespace Go.Proofs.YthmcdohndckniaaGreatDoor
open Go.RowKit
set_option linter.unusedVariables false

theorem symR_bad {bt zs : List Int} {p : Nat} {b : Bool} (h : symR bt zs p = .bad b) : b = false := by
  unfold symR at h
  split at h
  · cases h
  · injection h with h; exact h.symm
/-- A step that reads, behind others: an error stays what it was. -/
theorem took_next {e1 : Int} {T1 : Res Nat} {v p2 : Nat} {e2 : Int} {T : Res (List Int)} {G : Nat → Nat → Res (List Int)} (hb : ∀ b, T1 = .bad b → b = false) (h1 : (e1 = 4 ∧ T = .bad false) ∨ (e1 = 0 ∧ T = T1.bind G)) (h : Took e1 T1 v p2 e2) :
    (e2 = 4 ∧ T = .bad false) ∨ (e2 = 0 ∧ T = G v p2) := by
  rcases h1 with ⟨rfl, hT⟩ | ⟨rfl, hT⟩
  · left
    refine ⟨?_, hT⟩
    rcases took_or h with ⟨_, h⟩ | ⟨b, _, _, h⟩
    · exact h
    · rw [h]; rfl
  · rcases took_or h with ⟨k, h⟩ | ⟨b, k, _, h⟩
    · right
      refine ⟨h, ?_⟩
      rw [hT, k]; rfl
    · left
      obtain rfl := hb b k
      refine ⟨h, ?_⟩
      rw [hT, k]; rfl
theorem copyR_len (out : List Int) (far : Nat) : ∀ n, (copyR out far n).length = out.length + n
  | 0 => rfl
  | n + 1 => by simp [copyR, copyR_len out far n]; omega

end Go.Proofs.YthmcdohndckniaaGreatDoor
namespace Go.Proofs.YthmcdohndckniaaGreatDoor
open Go.RowKit
set_option linter.unusedVariables false

theorem matchR_mono {bt ds out a : List Int} {most v p q : Nat} (hp : p ≤ bt.length) (h : matchR bt most ds out v p = .ok a q) : p ≤ q := by
  unfold matchR at h
  split at h
  · cases h
  rcases h1 : numR bt p (lbits.getD v 0).toNat with ⟨x, p1⟩ | b
  · rw [h1] at h
    simp only [Res.bind] at h
    obtain ⟨e1, e2, _⟩ := numR_ok h1
    rcases h2 : symR bt ds p1 with ⟨k, p2⟩ | b
    · rw [h2] at h
      simp only at h
      obtain ⟨f1, f2, _⟩ := symR_ok (by omega) h2
      split at h
      · cases h
      rcases h3 : numR bt p2 (dbits.getD k 0).toNat with ⟨y, p3⟩ | b
      · rw [h3] at h
        simp only at h
        obtain ⟨g1, g2, _⟩ := numR_ok h3
        split at h
        · cases h
        split at h
        · cases h
        injection h with _ h
        omega
      · rw [h3] at h; cases h
    · rw [h2] at h; cases h
  · rw [h1] at h; cases h

theorem errOf_ne (b : Bool) : errOf b ≠ 0 := by cases b <;> decide

end Go.Proofs.YthmcdohndckniaaGreatDoor
namespace Go.Proofs.YthmcdohndckniaaGreatDoor
open Go.RowKit
set_option linter.unusedVariables false

theorem own_off {w : World} {g : Nat} {t e : TypeId} {cs : Array Value} {base size n : Nat} {v : Value} {xs : List Value} (hb : Blk w g t cs) (h : w.ownsRow base e size v n xs) (ht : t ≠ e) : some g ≠ v.ownBlock := by
  rcases h.2 with ⟨rfl, _⟩ | ⟨g', cap, cur, rfl, _, hg, _⟩
  · simp [Value.ownBlock]
  · intro he
    simp only [Value.ownBlock, Option.some.injEq] at he
    subst he
    unfold Blk at hb
    rw [hg] at hb
    injection hb with hb
    injection hb with _ e
    exact ht e.symm
theorem own_base {w : World} {base : Nat} {e : TypeId} {size n : Nat} {v : Value} {xs : List Value} (h : w.ownsRow base e size v n xs) {k : Nat} (hk : v.ownBlock = some k) : base ≤ k := by
  rcases h.2 with ⟨rfl, _⟩ | ⟨g', cap, cur, rfl, hb, _⟩
  · cases hk
  · simp only [Value.ownBlock, Option.some.injEq] at hk
    omega
def lenOf : Value → Nat
  | .slice _ n _ => n
  | _ => 0
def FxD (w : World) (sv0 : Value) (g0 k : Nat) (sv : Value) (wr : World) : Prop :=
  ∃ j A c, sv = .slice A j c ∧ j ≤ 32 ∧ 32 ≤ j + k ∧ wr.ownsRow w.heap.size 3 1 sv j ((List.replicate j (5 : Int)).map (Value.int .i64)) ∧ Below w.heap.size w wr ∧ wr.ownsRow w.heap.size 3 1 sv0 288 (fixedL.map (Value.int .i64)) ∧ sv.ownBlock ≠ some g0 ∧ g0 < wr.heap.size
def fxPre : Nat → List Int
  | 0 => []
  | 1 => List.replicate 144 8
  | 2 => List.replicate 144 8 ++ List.replicate 112 9
  | 3 => List.replicate 144 8 ++ List.replicate 112 9 ++ List.replicate 24 7
  | _ => fixedL
def fxN : Nat → Nat
  | 0 => 0
  | 1 => 144
  | 2 => 256
  | 3 => 280
  | _ => 288
theorem fx_len (i : Nat) (hi : i ≤ 4) : (fxPre i).length = fxN i := by
  obtain rfl | rfl | rfl | rfl | rfl : i = 0 ∨ i = 1 ∨ i = 2 ∨ i = 3 ∨ i = 4 := by omega
  all_goals (simp only [fxPre, fixedL, fxN, List.length_append, List.length_replicate, List.length_nil])
def FxO (w : World) (k : Nat) (sv iv : Value) (wr : World) : Prop :=
  ∃ i A c, iv = .int .i64 ((i : Nat) : Int) ∧ i + k = 4 ∧ sv = .slice A (fxPre i).length c ∧ wr.ownsRow w.heap.size 3 1 sv (fxPre i).length ((fxPre i).map (Value.int .i64)) ∧ Below w.heap.size w wr
def FixedPost (w : World) (ev : Ending) (w' : World) : Prop :=
  ∃ A B ca cb, ev = .returned (.tuple #[.slice A 288 ca, .slice B 32 cb]) ∧ RdI .i64 w' A 288 fixedL ∧ RdI .i64 w' B 32 fixedD ∧ Below w.heap.size w w'
end Go.Proofs.YthmcdohndckniaaGreatDoor
