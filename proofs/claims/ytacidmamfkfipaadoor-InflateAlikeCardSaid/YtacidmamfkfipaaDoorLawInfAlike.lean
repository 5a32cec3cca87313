/-
  InflateAlike walked.
-/
import Derived.Test.YtacidmamfkfipaaDoorInfTop
import Derived.Test.YtacidmamfkfipaaDoorBag8
namespace Go.Proofs.YtacidmamfkfipaaDoor
open Go.RowKit
set_option linter.unusedVariables false

def three {α : Type} (a b c : α) (k : Nat) : α := if k = 0 then a else if k = 1 then b else c
theorem lat_three (w : World) (v0 v1 v2 : Value) : LAt (w.alloc (.cells #[v0, v1, v2] 22)) w.heap.size 3 (three v0 v1 v2) := by
  refine ⟨_, Blk.made _ _ _, fun k hk => ?_⟩
  match k, hk with
  | 0, _ => rfl
  | 1, _ => rfl
  | 2, _ => rfl
theorem fam_three {w : World} {base n0 n1 n2 : Nat} {v0 v1 v2 : Value} {x0 x1 x2 : List Int} (h0 : w.ownsRow base 5 1 v0 n0 (x0.map (Value.int .u8))) (h1 : w.ownsRow base 5 1 v1 n1 (x1.map (Value.int .u8))) (h2 : w.ownsRow base 5 1 v2 n2 (x2.map (Value.int .u8))) :
    Fam w base 3 (three v0 v1 v2) (three n0 n1 n2) (three x0 x1 x2) := fun k hk => by
  match k, hk with
  | 0, _ => exact h0
  | 1, _ => exact h1
  | 2, _ => exact h2
theorem apt_three {v0 v1 v2 : Value} (h01 : Ap v0 v1) (h02 : Ap v0 v2) (h12 : Ap v1 v2) : Apt 3 (three v0 v1 v2) (three v0 v1 v2) := fun i j hi hj hij => by
  obtain rfl | rfl | rfl : i = 0 ∨ i = 1 ∨ i = 2 := by omega
  all_goals obtain rfl | rfl | rfl : j = 0 ∨ j = 1 ∨ j = 2 := by omega
  all_goals first
    | exact absurd rfl hij
    | exact h01
    | exact h02
    | exact h12
    | exact h01.symm
    | exact h02.symm
    | exact h12.symm
/-- One row lay there when the other one was made. -/
theorem ap_late {w w' : World} {b n m : Nat} {e e' : TypeId} {v u : Value} {xs ys : List Value} (hv : w.ownsRow b e 1 v n xs) (hu : w'.ownsRow w.heap.size e' 1 u m ys) : Ap v u := fun g hg hu' => by
  have h1 := (hv.lt g hg).2
  have h2 := (hu.lt g hu').1
  omega
theorem own_lower {w : World} {b b2 n : Nat} {e : TypeId} {v : Value} {xs : List Value} (h : w.ownsRow b e 1 v n xs) (hb : b2 ≤ b) : w.ownsRow b2 e 1 v n xs := own_from h (fun j hj => Nat.le_trans hb (h.lt j hj).1)
set_option maxHeartbeats 1600000 in
set_option maxRecDepth 100000 in
theorem infAlike_walk (bs : List Int) (A : Option Addr) (n cap : Nat) (w : World) (h : RdI .u8 w A n bs) (hB : Bytes bs) (ht : TabsOk w) :
    Calls Tryd.prog 6 #[.slice A n cap] w fun e w' => e = .returned (.bool true) ∧ Below w.heap.size w w' := by
  have HR := Lib.hid h
  have hL := h.1
  have HBy := Lib.hid hB
  have TB := Lib.hid ht
  have AW := Lib.hid (awake_any w ht)
  clear h hB ht
  by_cases hn : 1500 < n
  · have hnI : (1500 : Int) < n := by omega
    go_enter Tryd.func6, Tryd.ntmps6
    go_wp2_with (refine AW.out.mono ?_; rintro ev w1 ⟨rfl, hb1⟩; have B1 := Lib.hid hb1; clear hb1)
    go_ret
    exact ⟨rfl, B1.out⟩
  · have hnI : ¬ (1500 : Int) < n := by omega
    have hn1 : n ≤ 1500 := by omega
    clear hn
    go_enter Tryd.func6, Tryd.ntmps6
    go_wp2_with (go_at_call 8; refine AW.out.mono ?_; rintro ev w1 ⟨rfl, hb1⟩; have B1 := Lib.hid hb1; clear hb1)
    refine (inflate_any bs A n cap 5000 w1 (HR.out.below B1.out) HBy.out (by omega) (TB.out.below B1.out)).mono ?_
    rintro ev w3 hp3
    obtain ⟨A3, c3, rfl, o3, -, hb3⟩ := hp3.out
    have O3 := Lib.hid o3
    have N3 := Lib.hid hb3
    have B3 := Lib.hid (below_chain B1.out hb3)
    clear hp3 o3 hb3
    go_wp2_with fail
    refine (inflate_any bs A n cap 5000 w3 (HR.out.below B3.out) HBy.out (by omega) (TB.out.below B3.out)).mono ?_
    rintro ev w4 hp4
    obtain ⟨A4, c4, rfl, o4, -, hb4⟩ := hp4.out
    have O4 := Lib.hid o4
    have N4 := Lib.hid hb4
    have B4 := Lib.hid (below_chain B3.out hb4)
    clear hp4 o4 hb4
    have hlen := infOut_len bs 5000
    generalize infOut bs 5000 = X at *
    obtain ⟨out, N, e⟩ := X
    simp only at *
    have de : (e == e) = true := by simp
    have dN : (N == N) = true := by simp
    go_wp2_with fail
    refine (same_bytes out out A3 A4 out.length out.length c3 c4 w4 ((RdI.of_own O3.out).below N4.out) (RdI.of_own O4.out) (by omega) (by omega)).mono ?_
    rintro ev w5 ⟨rfl, hb5⟩
    have N5 := Lib.hid hb5
    have B5 := Lib.hid (below_chain B4.out hb5)
    clear hb5
    have ds : decide (out = out) = true := by simp
    go_wp2_with fail
    refine (copy_bytes bs A n cap w5 (HR.out.below B5.out) (by omega)).mono ?_
    rintro ev w6 ⟨A6, c6, rfl, o6, hb6⟩
    have O6 := Lib.hid o6
    have N6 := Lib.hid hb6
    have B6 := Lib.hid (below_chain B5.out hb6)
    clear o6 hb6
    go_wp2_with fail
    obtain ⟨w7, hw7⟩ : ∃ w7, w7 = w6.alloc (.cells #[.slice A3 out.length c3, .slice A4 out.length c4, .slice A6 n c6] 22) := ⟨_, rfl⟩
    rw [← hw7]
    have N7 : Below w6.heap.size w6 w7 := by rw [hw7]; exact (Below.refl _ _).alloc (Nat.le_refl _) _
    have L7 : LAt w7 w6.heap.size 3 (three (.slice A3 out.length c3) (.slice A4 out.length c4) (.slice A6 n c6)) := by rw [hw7]; exact lat_three _ _ _ _
    clear hw7
    have P4 := own_below O3.out N4.out
    have P5 := own_below P4 N5.out
    have Q5 := own_below O4.out N5.out
    have P7 := own_below (own_below P5 N6.out) N7
    have Q7 := own_below (own_below Q5 N6.out) N7
    have R7 := own_below O6.out N7
    have s1 := B1.out.size
    have s3 := B3.out.size
    have s5 := B5.out.size
    have F7 := fam_three (own_lower P7 s1) (own_lower Q7 s3) (own_lower R7 s5)
    have A7 := apt_three (ap_late O3.out O4.out) (ap_late P5 O6.out) (ap_late Q5 O6.out)
    refine (apartBytes_any w7 w.heap.size w6.heap.size 3 3 _ _ _ L7 F7 A7 (by omega) (by omega) (fun k hk => ?_) (Nat.le_trans B6.out.size N7.size)).mono ?_
    · unfold three
      split
      · omega
      split
      · omega
      · omega
    rintro ev w8 ⟨rfl, hb8⟩
    have B8 := Lib.hid ((B6.out.trans (N7.mono B6.out.size)).trans hb8)
    clear hb8
    go_wp2
    go_ret
    exact ⟨rfl, B8.out⟩
end Go.Proofs.YtacidmamfkfipaaDoor
