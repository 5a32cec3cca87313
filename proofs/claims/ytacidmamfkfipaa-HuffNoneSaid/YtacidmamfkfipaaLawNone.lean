/-
  The law HuffNone, walked: decoders and readers that aren't there.
-/
import Derived.Test.YtacidmamfkfipaaNew
import Derived.Test.YtacidmamfkfipaaBitio
import Derived.Test.YtacidmamfkfipaaAwake4
namespace Go.Proofs.Ytacidmamfkfipaa
open Go.RowKit
set_option linter.unusedVariables false

def NoSym (w : World) (e : Ending) (w' : World) : Prop := e = .returned (.tuple #[.int .i64 0, .bool false]) ∧ w = w'
set_option maxHeartbeats 800000 in
theorem next_nil (r : Option Addr) (w : World) : Calls Try.prog 24 #[.pointer none, .pointer r] w (NoSym w) := by
  go_enter Try.func24, Try.ntmps24
  go_wp2
  go_ret2
  exact ⟨rfl, rfl⟩
set_option maxHeartbeats 800000 in
theorem next_empty (g : Nat) (r : Option Addr) (w : World) (h : w.cell? ⟨g, 49, none⟩ = some (.bool false)) : Calls Try.prog 24 #[.pointer (some ⟨g, 0, none⟩), .pointer r] w (NoSym w) := by
  go_enter Try.func24, Try.ntmps24
  go_wp2
  go_ret2
  exact ⟨rfl, rfl⟩
set_option maxHeartbeats 800000 in
theorem next_noreader (g : Nat) (w : World) (h : w.cell? ⟨g, 49, none⟩ = some (.bool true)) : Calls Try.prog 24 #[.pointer (some ⟨g, 0, none⟩), .pointer none] w (NoSym w) := by
  go_enter Try.func24, Try.ntmps24
  go_wp2
  go_ret2
  exact ⟨rfl, rfl⟩

theorem dec_there {w : World} {g : Nat} {zs : List Int} (h : DecOk w g zs) : w.cell? ⟨g, 49, none⟩ = some (.bool true) := by
  obtain ⟨vs, hb, _⟩ := h
  exact hb.cell (by rw [rowOf_at (by omega)]; rfl)
def emptyDec : Array Value := rowOf (fun i => if i < 32 then .int .i64 0 else if i < 48 then .slice none 0 0 else if i = 48 then .int .i64 0 else .bool false) 50

theorem abs_alloc2 {P : World → Prop} {w : World} {c1 c2 : Array Value} {t1 t2 : TypeId} (h : ∀ w2, Below w.heap.size w w2 → Blk w2 w.heap.size t1 c1 → Blk w2 (w.heap.size + 1) t2 c2 → P w2) : P ((w.alloc (.cells c1 t1)).alloc (.cells c2 t2)) :=
  h _ (((Below.refl _ _).alloc (Nat.le_refl _) _).alloc (by simp) _) ((Blk.made _ _ _).alloc _) (Blk.made_at _ _ _ (by simp))
theorem abs_alloc1 {P : World → Prop} {w : World} {c1 : Array Value} {t1 : TypeId} (h : ∀ w2, Below w.heap.size w w2 → Blk w2 w.heap.size t1 c1 → P w2) : P (w.alloc (.cells c1 t1)) :=
  h _ ((Below.refl _ _).alloc (Nat.le_refl _) _) (Blk.made _ _ _)
theorem rd11 {w : World} {g : Nat} {t : TypeId} (h : Blk w g t #[.int .i64 1, .int .i64 1]) : RdI .i64 w (some ⟨g, 0, none⟩) 2 [1, 1] :=
  ⟨rfl, fun _ => ⟨g, 0, rfl, h.lt, fun j hj => by
    rw [Nat.zero_add, h.cellq]
    obtain rfl | rfl : j = 0 ∨ j = 1 := by omega
    · rfl
    · rfl⟩⟩
def None1 (w : World) (i : Value) (wr : World) : Prop :=
  ∃ k : Nat, k ≤ 2 ∧ i = .int .i64 k ∧ wr = w

set_option maxHeartbeats 1600000 in
theorem none_walk (bs : List Int) (A : Option Addr) (n cap : Nat) (w : World) (hr : RdI .u8 w A n bs) (hn : n ≤ 9223372036854775807) :
    Calls Try.prog 8 #[.slice A n cap] w fun e w' => e = .returned (.bool true) ∧ Below w.heap.size w w' := by
  have HR := Lib.hid hr
  have HL := Lib.hid hr.1
  clear hr
  by_cases hbig : 300 < n
  · have hb : (300 : Int) < n := by omega
    go_enter Try.func8, Try.ntmps8
    go_wp2_with (go_at_call 10; refine (awake4 _).mono ?_; rintro ev w1 ⟨rfl, hb1⟩; have HB1 := Lib.hid hb1; clear hb1)
    go_ret
    exact ⟨rfl, HB1.out⟩
  have hb : ¬ (300 : Int) < n := by omega
  go_enter Try.func8, Try.ntmps8
  go_wp2_with (first
    | (go_at_call 10; refine (awake4 _).mono ?_; rintro ev w1 ⟨rfl, hb1⟩; have HB1 := Lib.hid hb1; clear hb1))
  refine abs_alloc2 (P := fun w => Calls _ _ _ w _) ?_
  intro w2 hb2 hd2 hs2
  have HB2 := Lib.hid (below_chain HB1.out hb2)
  have hd := hd2.cell (i := 49) (v := .bool false) rfl
  have hs := hs2.cell (i := 0) rfl
  have hs' := hs2.cell (i := 1) rfl
  have hlt := hs2.lt
  clear hd2 hs2 hb2
  have hlt1 : w1.heap.size < w2.heap.size := by omega
  generalize w1.heap.size = gd at *
  refine (newReader_any bs A n cap w2 (HR.out.below HB2.out) (by omega)).mono ?_
  rintro ev w3 ⟨r, rfl, hr3, hro, hb3⟩
  have HB3 := Lib.hid (below_chain HB2.out hb3)
  have HRo := Lib.hid hro
  have hd := keepCell hb3 hlt1 hd
  have hs := keepCell hb3 hlt hs
  have hs' := keepCell hb3 hlt hs'
  clear hb3 hro hlt hlt1 hr3
  go_wp2
  go_loopw [5] (None1 w3) (fun i _ => 2 - (intOf i).toNat)
  case atStart => exact ⟨0, by omega, rfl, rfl⟩
  case round =>
    obtain ⟨k, hk, rfl, rfl⟩ := hrel
    obtain rfl | rfl | rfl : k = 0 ∨ k = 1 ∨ k = 2 := by omega
    · go_wp2_with (first
        | (go_at_call 24; refine (next_nil _ _).mono ?_; rintro ev w4 ⟨rfl, rfl⟩)
        | (go_at_call 26; refine (at_any r 0 bs _ HRo.out).mono ?_; rintro ev w4 ⟨rfl, rfl⟩))
      go_roundw
      case rel => exact ⟨1, by omega, rfl, rfl⟩
      case measure => simp [intOf]
    · go_wp2_with (first
        | (go_at_call 24; refine (next_empty _ _ _ hd).mono ?_; rintro ev w4 ⟨rfl, rfl⟩)
        | (go_at_call 26; refine (at_any r 0 bs _ HRo.out).mono ?_; rintro ev w4 ⟨rfl, rfl⟩))
      go_roundw
      case rel => exact ⟨2, by omega, rfl, rfl⟩
      case measure => simp [intOf]
    · clear hd hs hs'
      go_wp2_with fail
      refine abs_alloc1 (P := fun w => Calls _ _ _ w _) ?_
      intro w4 hb4 hl4
      have HB4 := Lib.hid (below_chain HB3.out hb4)
      refine (new_any [1, 1] (some ⟨_, 0, none⟩) 2 2 w4 (rd11 hl4) (by omega)).mono ?_
      rintro ev w5 ⟨hor, hb5⟩
      rcases hor with ⟨h, _⟩ | ⟨_, g, rfl, hg, hdec⟩
      · exact absurd h (by decide)
      have HB5 := Lib.hid (below_chain HB4.out hb5)
      have ht := dec_there hdec
      clear hb4 hb5 hl4 hdec hg
      go_wp2_with (go_at_call 24; refine (next_noreader _ _ ht).mono ?_; rintro ev w6 ⟨rfl, rfl⟩)
      go_ret
      exact ⟨rfl, HB5.out⟩
end Go.Proofs.Ytacidmamfkfipaa
