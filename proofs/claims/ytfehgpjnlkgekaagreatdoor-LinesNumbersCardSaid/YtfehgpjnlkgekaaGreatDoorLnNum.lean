/-
  lines.number, lines.unhex, walked.
-/
import Derived.Test.YtfehgpjnlkgekaaGreatDoorLnHex
namespace Go.Proofs.YtfehgpjnlkgekaaGreatDoor
open Go.RowKit
set_option linter.unusedVariables false
set_option linter.unusedSimpArgs false

def wrongV : Value := .iface 58 (.agg #[])
def NumPost (l : List UInt8) (w : World) (e : Ending) (w' : World) : Prop :=
  Below w.heap.size w w' ∧ match numL l with
    | some v => e = .returned (.tuple #[.int .i64 v, .nilIface])
    | none => e = .returned (.tuple #[.int .i64 0, wrongV])
theorem beq_dec (a b : List UInt8) : (a == b) = decide (a = b) := by
  cases h : a == b
  · simp at h; simp [h]
  · simp at h; simp [h]
theorem ba_list (s : ByteArray) : s.toList = s.data.toList := ByteArray.toList_eq s
theorem number_any (s : ByteArray) (w : World) (ht : LnT w) (hs : s.size ≤ 100000000) :
    Calls Tryz.prog 40 #[.string s] w (NumPost s.data.toList w) := by
  have HT := Lib.hid ht
  unfold NumPost
  unfold numL
  rcases h : Lib.atoiAll s.data.toList with v | _ | _
  ·
    have hb := Lib.atoiAll_bounds h
    have hA := Tryz.strconv_Atoi_ok s (by omega) v h w
    clear ht
    have e1 : (Lib.itoa v == s.toList) = decide (Lib.itoa v = s.data.toList) := by
      rw [ba_list]
      exact beq_dec _ _
    simp only
    by_cases hi : Lib.itoa v = s.data.toList
    · rw [if_pos hi]
      rw [decide_eq_true hi] at e1
      go_enter Tryz.func40, Tryz.ntmps40
      go_wp2_with fail
      refine hA.mono ?_
      rintro ev w1 ⟨rfl, hw1⟩
      have B1 := Lib.hid (show Below w.heap.size w w1 by
        rcases hw1 with rfl | ⟨t, rfl⟩
        · exact Below.refl _ _
        · exact Lib.bytesWorld_below _ _ _)
      clear hw1
      go_wp2_with fail
      refine (itoa_any v hb w1 (HT.out.below B1.out)).mono ?_
      rintro ev w2 ⟨rfl, hb2⟩
      have B2 := Lib.hid (below_chain B1.out hb2)
      clear hb2
      go_wp2
      go_ret2
      exact ⟨B2.out, rfl⟩
    · rw [if_neg hi]
      rw [decide_eq_false hi] at e1
      go_enter Tryz.func40, Tryz.ntmps40
      go_wp2_with fail
      refine hA.mono ?_
      rintro ev w1 ⟨rfl, hw1⟩
      have B1 := Lib.hid (show Below w.heap.size w w1 by
        rcases hw1 with rfl | ⟨t, rfl⟩
        · exact Below.refl _ _
        · exact Lib.bytesWorld_below _ _ _)
      clear hw1
      go_wp2_with fail
      refine (itoa_any v hb w1 (HT.out.below B1.out)).mono ?_
      rintro ev w2 ⟨rfl, hb2⟩
      have B2 := Lib.hid (below_chain B1.out hb2)
      clear hb2
      go_wp2
      go_ret2
      exact ⟨B2.out, rfl⟩
  ·
    obtain ⟨tp, p, hv⟩ := ht.syn
    have hA := Tryz.strconv_Atoi_bad_var s (by omega) (fun v hh => by rw [h] at hh; cases hh) (fun hh => by rw [h] at hh; cases hh) tp p w hv
    simp only
    go_enter Tryz.func40, Tryz.ntmps40
    go_wp2_with fail
    refine hA.mono ?_
    rintro ev w1 ⟨N, rfl, _, _, hb1⟩
    have B1 := Lib.hid hb1
    clear hb1
    go_wp2
    go_ret2
    exact ⟨B1.out, rfl⟩
  ·
    obtain ⟨tp, p, hv⟩ := ht.rng
    have hA := Tryz.strconv_Atoi_range_var s (by omega) h tp p w hv
    simp only
    go_enter Tryz.func40, Tryz.ntmps40
    go_wp2_with fail
    refine hA.mono ?_
    rintro ev w1 ⟨N, rfl, _, _, hb1⟩
    have B1 := Lib.hid hb1
    clear hb1
    go_wp2
    go_ret2
    exact ⟨B1.out, rfl⟩
end Go.Proofs.YtfehgpjnlkgekaaGreatDoor
