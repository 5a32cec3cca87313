/-
  inflate's stream: what lies in memory, what its small methods do.
-/
import Derived.Test.YthmcdohndckniaaGreatDoorInfSpec
import Derived.Test.YthmcdohndckniaaGreatDoorPairs
import Derived.Test.YthmcdohndckniaaGreatDoorBitsPlain
namespace Go.Proofs.YthmcdohndckniaaGreatDoor
open Go.RowKit
set_option linter.unusedVariables false

/-- What a stream's methods may turn: its own block, its reader's, rows of bytes from 'base' on. -/
structure StStep (w w' : World) (base s r : Nat) : Prop where
  os : w'.os = w.os
  tape : w'.tape = w.tape
  output : w'.output = w.output
  size : w.heap.size ≤ w'.heap.size
  low : ∀ k, k < base → k ≠ s → k ≠ r → w'.heap[k]? = w.heap[k]?
  typ : ∀ k, k < w.heap.size → (∀ cs f, w.heap[k]? ≠ some (.cells cs 5 f)) → k ≠ s → k ≠ r → w'.heap[k]? = w.heap[k]?
theorem StStep.refl (w : World) (base s r : Nat) : StStep w w base s r := ⟨rfl, rfl, rfl, Nat.le_refl _, fun _ _ _ _ => rfl, fun _ _ _ _ _ => rfl⟩
theorem StStep.trans {w w1 w2 : World} {base s r : Nat} (h : StStep w w1 base s r) (k : StStep w1 w2 base s r) : StStep w w2 base s r := by
  refine ⟨k.os.trans h.os, k.tape.trans h.tape, k.output.trans h.output, Nat.le_trans h.size k.size, fun j hj h1 h2 => (k.low j hj h1 h2).trans (h.low j hj h1 h2), fun j hj ht h1 h2 => ?_⟩
  have e := h.typ j hj ht h1 h2
  exact (k.typ j (Nat.lt_of_lt_of_le hj h.size) (by rw [e]; exact ht) h1 h2).trans e
theorem StStep.of_below {w w' : World} {base s r : Nat} (h : Below w.heap.size w w') (hb : base ≤ w.heap.size) : StStep w w' base s r :=
  ⟨h.os, h.tape, h.output, h.size, fun k hk _ _ => h.block k (by omega), fun k hk _ _ _ => h.block k hk⟩
theorem StStep.of_s {w w' : World} {base s r : Nat} (h : w.grownBy w' (some s)) (hb : base ≤ w.heap.size) : StStep w w' base s r :=
  ⟨h.os, h.tape, h.output, h.size, fun k hk h1 _ => h.block k (by omega) (fun e => h1 (by injection e)), fun k hk _ h1 _ => h.block k hk (fun e => h1 (by injection e))⟩
theorem StStep.of_r {w w' : World} {base s r : Nat} (h : w.grownBy w' (some r)) (hb : base ≤ w.heap.size) : StStep w w' base s r :=
  ⟨h.os, h.tape, h.output, h.size, fun k hk _ h1 => h.block k (by omega) (fun e => h1 (by injection e)), fun k hk _ _ h1 => h.block k hk (fun e => h1 (by injection e))⟩
theorem StStep.of_own {w w' : World} {base s r n : Nat} {v : Value} {xs : List Value} (h : w.grownBy w' v.ownBlock) (ho : w.ownsRow 0 5 1 v n xs) (hlo : ∀ j, v.ownBlock = some j → base ≤ j) (hb : base ≤ w.heap.size) : StStep w w' base s r := by
  refine ⟨h.os, h.tape, h.output, h.size, fun k hk _ _ => h.block k (by omega) (fun e => ?_), fun k hk ht _ _ => h.block k hk (fun e => ?_)⟩
  · have := hlo k e.symm; omega
  · rcases ho.2 with ⟨rfl, _⟩ | ⟨g, cap, cur, rfl, _, hg, _⟩
    · cases e
    · simp only [Value.ownBlock] at e
      injection e with e
      subst e
      exact ht _ _ hg
theorem st_apart {w : World} {r : Nat} {cs : Array Value} {base n : Nat} {v : Value} {xs : List Value} {t : TypeId} (hb : Blk w r t cs) (h : w.ownsRow base 5 1 v n xs) (ht : t ≠ 5) : v.ownBlock = none ∨ v.ownBlock ≠ some r := by
  rcases h.2 with ⟨rfl, _⟩ | ⟨g', cap, cur, rfl, _, hg, _⟩
  · exact .inl rfl
  · refine .inr (fun he => ?_)
    simp only [Value.ownBlock, Option.some.injEq] at he
    subst he
    unfold Blk at hb
    rw [hg] at hb
    injection hb with hb
    injection hb with _ e
    exact ht e.symm
theorem blk_ne {w : World} {a b : Nat} {t u : TypeId} {cs cs' : Array Value} (h : Blk w a t cs) (k : Blk w b u cs') (hn : t ≠ u) : a ≠ b := by
  rintro rfl
  unfold Blk at h k
  rw [h] at k
  injection k with k
  injection k with _ k
  exact hn k
theorem str_no8 {w : World} {s : Nat} {t : TypeId} {q : Option Addr} {A : Option Addr} {n c : Nat} {x y : Int} (h : Blk w s t #[.pointer q, .slice A n c, .int .i64 x, .int .i64 y]) (o : Nat) (z : Int) : w.cell? ⟨s, o, none⟩ ≠ some (.int .u8 z) := by
  rw [h.cellq]
  rcases o with _ | _ | _ | _ | m <;> simp
/-- What one step has read: as said; or nothing, and the error is met. -/
def Took (e : Int) (T : Res Nat) (v p' : Nat) (e' : Int) : Prop := match T with
  | .ok a q => v = a ∧ p' = q ∧ e' = e
  | .bad b => v = 0 ∧ e' = if e = 0 then errOf b else e
/-- What an answer has to do with what is said. -/
def Agree (T : Res (List Int)) (out' : List Int) (p' : Nat) (e' : Int) : Prop := match T with
  | .ok a q => out' = a ∧ p' = q ∧ e' = 0
  | .bad b => e' = errOf b
end Go.Proofs.YthmcdohndckniaaGreatDoor
