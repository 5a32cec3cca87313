/-
  DeflateSays walked.
-/
import Derived.Test.YthmcdohndckniaaGreatDoorDTop
import Derived.Test.YthmcdohndckniaaGreatDoorDLaid
import Derived.Test.YthmcdohndckniaaGreatDoorBag8
namespace Go.Proofs.YthmcdohndckniaaGreatDoor
open Go.RowKit
set_option linter.unusedVariables false

def OvI (g n c base : Nat) (w : World) (k0 : Nat) (iv : Value) (wr : World) : Prop :=
  ∃ (k : Nat) (xs : List Value), iv = .int .i64 (k : Int) ∧ k + k0 = n + 12 ∧ wr.ownsRow base 5 1 (.slice (some ⟨g, 0, none⟩) (n + 12) c) (n + 12) xs ∧ w.grownBy wr (some g)
set_option maxHeartbeats 800000 in
/-- What was lent is written over: its own block alone turns. -/
theorem over_any (xs : List Value) (g n c base : Nat) (w : World) (ho : w.ownsRow base 5 1 (.slice (some ⟨g, 0, none⟩) (n + 12) c) (n + 12) xs) (hc : n + 12 ≤ c) (hn : n ≤ 1000000) :
    Calls Tryz.prog 8 #[.slice (some ⟨g, 0, none⟩) n c] w fun e w' => e = .returned (.tuple #[]) ∧ w.grownBy w' (some g) := by
  have HO := Lib.hid ho
  clear ho
  have hcI : (n : Int) + 12 ≤ c := by omega
  go_enter Tryz.func8, Tryz.ntmps8
  go_wp2
  go_loopg [3] (n + 12) (OvI g n c base w)
  case atStart => exact ⟨0, xs, rfl, by omega, HO.out, World.grownBy.refl _ _⟩
  case round =>
    clear HO
    obtain ⟨k, ys, rfl, hk, ho, hg⟩ := hrel
    have HO := Lib.hid ho
    have HG := Lib.hid hg
    clear hg
    by_cases hlt : k < n + 12
    · have hltI : (k : Int) < (n : Int) + 12 := by omega
      have hyl : ys.length = n + 12 := by simpa using ho.1
      have q1 := ho.cellAt k (by omega)
      have q2 := ho.frozenAt k
      rw [List.getElem?_eq_getElem (by omega)] at q1
      have hm := Lib.hid (markByte_any 2 k wr (by omega) (by omega))
      clear ho
      go_wp2_with fail
      refine hm.out.mono ?_
      rintro ev w2 ⟨rfl, rfl⟩
      go_wp2
      go_roundg (gk - 1)
      case measure => omega
      case rel =>
        have hst := HO.out.stored k (.int .u8 (mb 2 k))
        exact ⟨k + 1, _, by go_num, by omega, hst.1, HG.out.trans hst.2⟩
    · have hltI : ¬ (k : Int) < (n : Int) + 12 := by omega
      clear ho
      go_wp2
      go_end0
      exact ⟨rfl, HG.out⟩
def two {α : Type} (a b : α) (k : Nat) : α := if k = 0 then a else b
theorem lat_two (w : World) (v0 v1 : Value) : LAt (w.alloc (.cells #[v0, v1] 22)) w.heap.size 2 (two v0 v1) := by
  refine ⟨_, Blk.made _ _ _, fun k hk => ?_⟩
  match k, hk with
  | 0, _ => rfl
  | 1, _ => rfl
theorem fam_two {w : World} {base n0 n1 : Nat} {v0 v1 : Value} {x0 x1 : List Int} (h0 : w.ownsRow base 5 1 v0 n0 (x0.map (Value.int .u8))) (h1 : w.ownsRow base 5 1 v1 n1 (x1.map (Value.int .u8))) :
    Fam w base 2 (two v0 v1) (two n0 n1) (two x0 x1) := fun k hk => by
  match k, hk with
  | 0, _ => exact h0
  | 1, _ => exact h1
theorem apt_two {v0 v1 : Value} (h01 : Ap v0 v1) : Apt 2 (two v0 v1) (two v0 v1) := fun i j hi hj hij => by
  obtain rfl | rfl : i = 0 ∨ i = 1 := by omega
  all_goals obtain rfl | rfl : j = 0 ∨ j = 1 := by omega
  all_goals first
    | exact absurd rfl hij
    | exact h01
    | exact h01.symm
theorem ap_later {w w' : World} {b n m : Nat} {e e' : TypeId} {v u : Value} {xs ys : List Value} (hv : w.ownsRow b e 1 v n xs) (hu : w'.ownsRow w.heap.size e' 1 u m ys) : Ap v u := fun g hg hu' => by
  have h1 := (hv.lt g hg).2
  have h2 := (hu.lt g hu').1
  omega
set_option maxHeartbeats 1600000 in
set_option maxRecDepth 100000 in
theorem sayslaw_any (b : List Int) (A : Option Addr) (n c : Nat) (w : World) (hb : RdI .u8 w A n b) (hB : ∀ z ∈ b, 0 ≤ z ∧ z < 256) (ht : DTabs w) (hnm : n ≤ 9223372036854775807) :
    Calls Tryz.prog 3 #[.slice A n c] w (TruePost w) := by
  have HT := Lib.hid ht
  have HR := Lib.hid hb
  have HBy := Lib.hid hB
  have hbn := hb.1
  clear ht hb hB
  by_cases h3 : 3000 < n
  · have h3I : (3000 : Int) < (n : Int) := by omega
    go_enter Tryz.func3, Tryz.ntmps3
    go_wp2_with fail
    refine (awake07_any w HT.out).mono ?_
    rintro ev w1 ⟨rfl, hb1⟩
    have B1 := Lib.hid hb1
    clear hb1
    go_wp2
    go_ret
    exact ⟨rfl, B1.out⟩
  · have h3I : ¬ (3000 : Int) < (n : Int) := by omega
    have hf := bestB_facts HBy.out (by omega)
    have HRd := Lib.hid hf.1
    have hfl : (bestB b).length ≤ n + 5 := by
      have h1 := hf.2.1
      rw [hbn, show n / 65536 = 0 by omega] at h1
      omega
    clear hf
    generalize hS : bestB b = S at *
    have HS := Lib.hid hS
    clear hS
    go_enter Tryz.func3, Tryz.ntmps3
    go_wp2_with fail
    refine (lent_bytes b A n c w HR.out (by omega)).mono ?_
    rintro ev w1 ⟨g, ci, rfl, hci, ho1, hb1⟩
    have O1 := Lib.hid ho1
    have B1 := Lib.hid hb1
    have RI := Lib.hid (rd_own_prefix ho1 hbn)
    have hg1 : w.heap.size ≤ g ∧ g < w1.heap.size := ho1.lt g rfl
    clear ho1 hb1
    go_wp2_with fail
    refine (deflate_any b (some ⟨g, 0, none⟩) n ci w1 RI.out HBy.out (by omega) (by omega) (HT.out.below B1.out)).mono ?_
    rintro ev w2 ⟨v2, rfl, hv2, hb2⟩
    rw [HS.out] at hv2
    obtain ⟨A2, c2, rfl, hc2, ho2⟩ := hv2
    have O2 := Lib.hid ho2
    have L2 := Lib.hid hb2
    have B2 := Lib.hid (show Below w.heap.size w w2 from B1.out.trans (hb2.mono B1.out.size))
    clear ho2 hb2
    go_wp2_with fail
    refine (deflate_any b (some ⟨g, 0, none⟩) n ci w2 (RI.out.below L2.out) HBy.out (by omega) (by omega) (HT.out.below B2.out)).mono ?_
    rintro ev w3 ⟨v3, rfl, hv3, hb3⟩
    rw [HS.out] at hv3
    obtain ⟨A3, c3, rfl, hc3, ho3⟩ := hv3
    have O3 := Lib.hid ho3
    have P3 := Lib.hid (own_below O2.out hb3)
    have L3 := Lib.hid (show Below w1.heap.size w1 w3 from L2.out.trans (hb3.mono L2.out.size))
    have B3 := Lib.hid (show Below w.heap.size w w3 from B2.out.trans (hb3.mono B2.out.size))
    have hAp := Lib.hid (ap_later O2.out O3.out)
    have I3 := Lib.hid (own_below O1.out L3.out)
    clear ho3 hb3 O2
    go_wp2_with fail
    refine (kept_bytes b A g n ci c w.heap.size w3 (HR.out.below B3.out) I3.out hci (by omega)).mono ?_
    rintro ev w4 ⟨rfl, hb4⟩
    have I4 := Lib.hid (own_below I3.out hb4)
    have P4 := Lib.hid (own_below P3.out hb4)
    have Q4 := Lib.hid (own_below O3.out hb4)
    have B4 := Lib.hid (show Below w.heap.size w w4 from B3.out.trans (hb4.mono B3.out.size))
    have hs12 : w1.heap.size ≤ w2.heap.size := L2.out.size
    have hs24 : w1.heap.size ≤ w4.heap.size := Nat.le_trans L3.out.size hb4.size
    clear hb4 I3 P3 O3 L3 L2 O1 RI
    go_wp2_with fail
    refine (over_any _ g n ci w.heap.size w4 I4.out hci (by omega)).mono ?_
    rintro ev w5 ⟨rfl, hg5⟩
    have P5 := Lib.hid (P4.out.kept hg5 (by
      right
      intro e
      have := (P4.out.lt _ e).1
      omega))
    have Q5 := Lib.hid (Q4.out.kept hg5 (by
      right
      intro e
      have := (Q4.out.lt _ e).1
      omega))
    have B5 := Lib.hid (B4.out.grown hg5 B4.out.size (fun k hk => by injection hk with hk; omega))
    clear hg5 P4 Q4 I4
    go_wp2_with fail
    refine (bound_any (n : Int) w5 (by omega)).mono ?_
    rintro ev w6 ⟨rfl, rfl⟩
    rw [if_neg (by omega)]
    go_wp2_with fail
    refine (says_any S b A2 S.length c2 A n c _ (RdI.of_own P5.out) (HR.out.below B5.out) HRd.out (by omega) (by omega)).mono ?_
    rintro ev w7 ⟨rfl, hb7⟩
    have P7 := Lib.hid (own_below P5.out hb7)
    have Q7 := Lib.hid (own_below Q5.out hb7)
    have B7 := Lib.hid (show Below w.heap.size w w7 from B5.out.trans (hb7.mono B5.out.size))
    clear hb7 P5 Q5
    go_wp2_with fail
    refine (same_bytes S S A2 A3 S.length S.length c2 c3 w7 (RdI.of_own P7.out) (RdI.of_own Q7.out) (by omega) (by omega)).mono ?_
    rintro ev w8 ⟨rfl, hb8⟩
    have P8 := Lib.hid (own_below P7.out hb8)
    have Q8 := Lib.hid (own_below Q7.out hb8)
    have B8 := Lib.hid (show Below w.heap.size w w8 from B7.out.trans (hb8.mono B7.out.size))
    have ds : decide (S = S) = true := by simp
    clear hb8 P7 Q7
    go_wp2_with fail
    obtain ⟨w9, hw9⟩ : ∃ w9, w9 = w8.alloc (.cells #[.slice A2 S.length c2, .slice A3 S.length c3] 22) := ⟨_, rfl⟩
    rw [← hw9]
    have L9 := Lib.hid (show LAt w9 w8.heap.size 2 (two (.slice A2 S.length c2) (.slice A3 S.length c3)) by rw [hw9]; exact lat_two _ _ _)
    have N9 : Below w8.heap.size w8 w9 := by rw [hw9]; exact (Below.refl _ _).alloc (Nat.le_refl _) _
    clear hw9
    have F9 := fam_two (ownbase (own_below P8.out N9) (show w.heap.size ≤ w1.heap.size from B1.out.size)) (ownbase (own_below Q8.out N9) (show w.heap.size ≤ w2.heap.size from B2.out.size))
    refine (apartBytes_any w9 w.heap.size w8.heap.size 2 2 _ _ _ L9.out F9 (apt_two hAp.out) (by omega) (by omega) (fun k hk => ?_) (Nat.le_trans B8.out.size N9.size)).mono ?_
    · unfold two
      split <;> omega
    rintro ev w10 ⟨rfl, hb10⟩
    have B10 := Lib.hid ((B8.out.trans (N9.mono B8.out.size)).trans hb10)
    clear hb10
    go_wp2_with fail
    refine (awake07_any w10 (HT.out.below B10.out)).mono ?_
    rintro ev w11 ⟨rfl, hb11⟩
    have B11 := Lib.hid (show Below w.heap.size w w11 from B10.out.trans (hb11.mono B10.out.size))
    clear hb11
    go_wp2
    go_ret
    exact ⟨rfl, B11.out⟩
end Go.Proofs.YthmcdohndckniaaGreatDoor
