/-
  DeflateNumbers walked.
-/
import Derived.Test.YthmcdohndckniaaDoorLawDB
namespace Go.Proofs.YthmcdohndckniaaDoor
open Go.RowKit
set_option linter.unusedVariables false

/-- Some bytes, as many as told. -/
def SomeB (n : Nat) (base : Nat) (w : World) (v : Value) : Prop := ∃ (g : Nat) (zs : List Int), v = .slice (some ⟨g, 0, none⟩) n n ∧ w.ownsRow base 5 1 (.slice (some ⟨g, 0, none⟩) n n) n (zs.map (Value.int .u8)) ∧ ∀ z ∈ zs, 0 ≤ z ∧ z < 256
def RowI (n : Nat) (g : Nat) (w : World) (k : Nat) (xv iv : Value) (wr : World) : Prop :=
  ∃ (i : Nat) (x : Int) (zs : List Int), iv = .int .i64 (i : Int) ∧ i + k = n ∧ xv = .int .u32 x ∧ 0 ≤ x ∧ x < 4294967296 ∧ wr.ownsRow w.heap.size 5 1 (.slice (some ⟨g, 0, none⟩) n n) n (zs.map (Value.int .u8)) ∧ (∀ z ∈ zs, 0 ≤ z ∧ z < 256) ∧ Below w.heap.size w wr
theorem row_next {w wr : World} {g n i : Nat} {zs : List Int} {y : Int} (ho : wr.ownsRow w.heap.size 5 1 (.slice (some ⟨g, 0, none⟩) n n) n (zs.map (Value.int .u8))) (hz : ∀ z ∈ zs, 0 ≤ z ∧ z < 256) (hb : Below w.heap.size w wr) (hy : 0 ≤ y ∧ y < 256) :
    (wr.setCell ⟨g, i, none⟩ (.int .u8 y)).ownsRow w.heap.size 5 1 (.slice (some ⟨g, 0, none⟩) n n) n ((zs.set i y).map (Value.int .u8)) ∧ (∀ z ∈ zs.set i y, 0 ≤ z ∧ z < 256) ∧ Below w.heap.size w (wr.setCell ⟨g, i, none⟩ (.int .u8 y)) := by
  have hst := ho.stored i (.int .u8 y)
  refine ⟨by rw [List.map_set]; exact hst.1, fun z hz2 => ?_, hb.grown hst.2 hb.size (fun k hk => (ho.lt k hk).1)⟩
  rcases List.mem_or_eq_of_mem_set hz2 with h | h
  · exact hz z h
  · rw [h]; exact hy
def DRowPost (n : Nat) (w : World) (ev : Ending) (w' : World) : Prop := ∃ v, ev = .returned v ∧ SomeB n w.heap.size w' v ∧ Below w.heap.size w w'
theorem row_fin {w wr : World} {g n i k : Nat} {zs : List Int} {x y : Int} (hi : i + 1 + k = n) (hx : 0 ≤ x ∧ x < 4294967296) (ho : wr.ownsRow w.heap.size 5 1 (.slice (some ⟨g, 0, none⟩) n n) n (zs.map (Value.int .u8))) (hz : ∀ z ∈ zs, 0 ≤ z ∧ z < 256) (hb : Below w.heap.size w wr) (hy : 0 ≤ y ∧ y < 256) :
    RowI n g w k (.int .u32 x) (.int .i64 ((i : Int) + 1)) (wr.setCell ⟨g, i, none⟩ (.int .u8 y)) := by
  obtain ⟨h1, h2, h3⟩ := row_next (i := i) (y := y) ho hz hb hy
  exact ⟨i + 1, x, _, by go_num, hi, rfl, hx.1, hx.2, h1, h2, h3⟩
set_option maxHeartbeats 1600000 in
theorem row_any (n kind : Nat) (w : World) (hn : n ≤ 100000) (hk : kind ≤ 1000) :
    Calls Tryd.prog 11 #[.int .i64 (n : Int), .int .i64 (kind : Int)] w (DRowPost n w) := by
  go_enter Tryd.func11, Tryd.ntmps11
  go_wp2_with (at_make; refine heldG ?_)
  unfold HeldG
  refine mk_bytes rfl (.tmp 8) (.tmp 8) rfl w.heap.size n _ _ rfl rfl rfl rfl (by omega) (Nat.le_refl _) ?_
  intro w1 ho hg
  have B1 := Lib.hid (show Below w.heap.size w w1 from (Below.refl _ _).grown hg (Nat.le_refl _) (fun k hk => by cases hk))
  have O1 := Lib.hid ho
  clear ho hg
  go_wp2
  go_loopg [6, 7] n (RowI n w.heap.size w)
  case atStart =>
    refine ⟨0, _, List.replicate n 0, rfl, by omega, rfl, by omega, by omega, by rw [List.map_replicate]; exact O1.out, fun z hz => by rw [List.eq_of_mem_replicate hz]; omega, B1.out⟩
  case round =>
    clear O1 B1
    obtain ⟨i, x, zs, rfl, hi, rfl, hx0, hx1, ho, hz, hb⟩ := hrel
    have O := Lib.hid ho
    have HZ := Lib.hid hz
    have B := Lib.hid hb
    have hzl : zs.length = n := by simpa using ho.1
    by_cases hlt : i < n
    · have hltI : (i : Int) < (n : Int) := by omega
      have q1 := ho.cellAt i (by omega)
      have q2 := ho.frozenAt i
      rw [List.getElem?_map, List.getElem?_eq_getElem (by omega)] at q1
      simp only [Option.map_some] at q1
      clear ho hz hb
      have hk4 : kind % 4 = 0 ∨ kind % 4 = 1 ∨ kind % 4 = 2 ∨ kind % 4 = 3 := by omega
      rcases hk4 with hk4 | hk4 | hk4 | hk4
      · have hk4I : (kind : Int) % 4 = 0 := by omega
        go_wp2
        all_goals
          go_roundg (gk - 1)
          case measure => omega
          case rel =>
            first
              | exact ⟨i + 1, _, zs, by go_num, by omega, rfl, by omega, by omega, O.out, HZ.out, B.out⟩
              | exact row_fin (by omega) (by omega) O.out HZ.out B.out (by omega)
      · have hk4I : (kind : Int) % 4 = 1 := by omega
        go_wp2
        all_goals
          go_roundg (gk - 1)
          case measure => omega
          case rel =>
            first
              | exact ⟨i + 1, _, zs, by go_num, by omega, rfl, by omega, by omega, O.out, HZ.out, B.out⟩
              | exact row_fin (by omega) (by omega) O.out HZ.out B.out (by omega)
      · have hk4I : (kind : Int) % 4 = 2 := by omega
        go_wp2
        all_goals
          go_roundg (gk - 1)
          case measure => omega
          case rel =>
            first
              | exact ⟨i + 1, _, zs, by go_num, by omega, rfl, by omega, by omega, O.out, HZ.out, B.out⟩
              | exact row_fin (by omega) (by omega) O.out HZ.out B.out (by omega)
      · have hk4I : (kind : Int) % 4 = 3 := by omega
        go_wp2
        all_goals
          go_roundg (gk - 1)
          case measure => omega
          case rel =>
            first
              | exact ⟨i + 1, _, zs, by go_num, by omega, rfl, by omega, by omega, O.out, HZ.out, B.out⟩
              | exact row_fin (by omega) (by omega) O.out HZ.out B.out (by omega)
    · clear ho hz hb
      go_wp2
      go_ret
      exact ⟨_, rfl, ⟨w.heap.size, zs, rfl, O.out, HZ.out⟩, B.out⟩
end Go.Proofs.YthmcdohndckniaaDoor
