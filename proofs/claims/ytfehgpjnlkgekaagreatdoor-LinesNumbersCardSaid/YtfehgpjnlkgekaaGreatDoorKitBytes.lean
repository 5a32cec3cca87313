/-
  peatbankkit on bytes: SameBytes, CopyBytes; Pick.
-/
import Derived.Test.YtfehgpjnlkgekaaGreatDoorMem
import Derived.Test.YtfehgpjnlkgekaaGreatDoorHuffSpec
namespace Go.Proofs.YtfehgpjnlkgekaaGreatDoor
open Go.RowKit
set_option linter.unusedVariables false

theorem src8 (W : World) (t : TypeId) (y : Value) : Src (W.alloc (.cells #[y] t)) 1 (.slice (some ⟨W.heap.size, 0, none⟩) 1 1) 1 [y] :=
  ⟨_, 1, rfl, rfl, fun _ => ⟨W.heap.size, 0, rfl, by simp, fun j u hu => by rw [Nat.zero_add, (Blk.made W t #[y]).cellq]; simpa using hu⟩⟩
theorem bytes_oneCell (l : List Int) : ∀ y ∈ l.map (Value.int .u8), y.oneCell' = true := by
  intro y hy
  obtain ⟨x, _, rfl⟩ := List.mem_map.1 hy
  rfl
theorem keep8 {B : Nat} {w w' : World} {g o : Nat} {v : Option Value} (hb : Below B w w') (hg : g < B) (h : w.cell? ⟨g, o, none⟩ = v) : w'.cell? ⟨g, o, none⟩ = v :=
  (World.cell?_of_block (a := ⟨g, o, none⟩) (hb.block g hg)).trans h
def Y1 (xs ys : List Int) (n : Nat) (w : World) (k0 : Nat) (iv : Value) (wr : World) : Prop := ∃ k : Nat, k + k0 = n ∧ iv = .int .i64 k ∧ xs.take k = ys.take k ∧ Below w.heap.size w wr
set_option maxHeartbeats 800000 in
theorem same_bytes (xs ys : List Int) (A B : Option Addr) (n m c d : Nat) (w : World) (ha : RdI .u8 w A n xs) (hb : RdI .u8 w B m ys) (hn : n ≤ 4611686018427387904) (hm : m ≤ 4611686018427387904) :
    Calls Tryz.prog 23 #[.slice A n c, .slice B m d] w fun e w' => e = .returned (.bool (decide (xs = ys))) ∧ Below w.heap.size w w' := by
  have HA := Lib.hid ha
  have HB := Lib.hid hb
  have hla := Lib.hid ha.1
  have hlb := Lib.hid hb.1
  clear ha hb
  by_cases hnm : n = m
  · subst hnm
    have d0 : ((n : Int) != n) = false := by simp
    go_enter Tryz.func23, Tryz.ntmps23
    go_wp2
    go_loopg [5] n (Y1 xs ys n w)
    case atStart => exact ⟨0, by omega, rfl, rfl, Below.refl _ _⟩
    case round =>
      obtain ⟨k, hk, rfl, ht, hbel⟩ := hrel
      have HT := Lib.hid ht
      have HBel := Lib.hid hbel
      clear ht hbel
      by_cases hlt : k < n
      · have hltI : (k : Int) < n := by omega
        obtain ⟨b, off, rfl, _, hx⟩ := HA.out.cell HBel.out hlt
        obtain ⟨b', off', rfl, _, hy⟩ := HB.out.cell HBel.out hlt
        have HX := Lib.hid (take_snoc xs k (by have := hla.out; omega))
        have HY := Lib.hid (take_snoc ys k (by have := hlb.out; omega))
        have HG : Hid (xs.getD k 0 ≠ ys.getD k 0 → decide (xs = ys) = false) := fun h => by simp; rintro rfl; exact h rfl
        generalize xs.getD k 0 = x at *
        generalize ys.getD k 0 = y at *
        by_cases he : x = y
        · have d1 : (x != y) = false := by simpa using he
          have HE := Lib.hid he
          clear he
          go_wp2
          go_quiet (fail)
          go_wp2
          go_roundg (gk - 1)
          case measure => omega
          case rel => exact ⟨k + 1, by omega, by go_num, by rw [HX.out, HY.out, HT.out, HE.out], below_drewN HBel.out _⟩
        · have d1 : (x != y) = true := by simpa using he
          have HF := Lib.hid (HG.out he)
          clear he HG
          go_wp2
          go_quiet (fail)
          go_wp2
          go_ret
          exact ⟨by rw [HF.out]; rfl, below_drewN HBel.out _⟩
      · obtain rfl : k = n := by omega
        have HE := Lib.hid (show decide (xs = ys) = true by
          have := HT.out
          rw [List.take_of_length_le (by have := hla.out; omega), List.take_of_length_le (by have := hlb.out; omega)] at this
          simpa using this)
        go_wp2
        go_ret
        exact ⟨by rw [HE.out]; rfl, HBel.out⟩
  · have d0 : ((n : Int) != m) = true := by simp; omega
    have HF := Lib.hid (show decide (xs = ys) = false by
      simp; rintro rfl
      have h1 := hla.out
      have h2 := hlb.out
      omega)
    go_enter Tryz.func23, Tryz.ntmps23
    go_wp2
    go_ret
    exact ⟨by rw [HF.out]; rfl, Below.refl _ _⟩

def CopyPost (zs : List Int) (n : Nat) (w : World) (e : Ending) (w' : World) : Prop :=
  ∃ A c, e = .returned (.slice A n c) ∧ w'.ownsRow w.heap.size 5 1 (.slice A n c) n (zs.map (Value.int .u8)) ∧ Below w.heap.size w w'
/-- What Pick makes of a number. -/
def pickI (x n : Int) : Int := if n < 1 then 0 else x % n
theorem pick_bd (x n : Int) (h : 1 ≤ n) : 0 ≤ pickI x n ∧ pickI x n < n := by
  unfold pickI
  rw [if_neg (by omega)]
  exact ⟨Int.emod_nonneg _ (by omega), Int.emod_lt_of_pos _ (by omega)⟩
theorem tmod_fix (x n : Int) (h : 1 ≤ n) : (if x.tmod n < 0 then x.tmod n + n else x.tmod n) = x % n := by
  have h1 := Int.tmod_lt_of_pos x (show 0 < n by omega)
  rw [Int.tmod_eq_emod]
  have h2 := Int.emod_nonneg x (show n ≠ 0 by omega)
  have h3 := Int.emod_lt_of_pos x (show 0 < n by omega)
  split <;> split <;> omega
end Go.Proofs.YtfehgpjnlkgekaaGreatDoor
