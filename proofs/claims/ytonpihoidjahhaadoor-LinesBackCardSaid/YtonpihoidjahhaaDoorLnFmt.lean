/-
  strconv.FormatInt, at a digit in base 16, walked.
-/
import Derived.Test.YtonpihoidjahhaaDoorLnRefT
import Derived.LoopN
namespace Go.Proofs.YtonpihoidjahhaaDoor
open Go.RowKit
set_option linter.unusedVariables false
set_option linter.unusedSimpArgs false

def DbT (w : World) : Prop := w.cell? ⟨3, 15, none⟩ = some (.int .u8 4)
theorem DbT.below {w w' : World} (h : DbT w) (hb : Below w.heap.size w w') : DbT w' := cell_low h hb
theorem tz64 (w : World) (h : DbT w) : Calls Tryd.prog 66 #[.int .u64 16] w fun e w' => e = .returned (.int .i64 4) ∧ w' = w := by
  unfold DbT at h
  have e0 : IntKind.u64.wrap (-16) = 18446744073709551600 := by decide +kernel
  have b1 : bits .and .u64 16 18446744073709551600 = 16 := by decide +kernel
  have e2 : IntKind.u64.wrap (16 * 285870213051353865) = 4573923408821661840 := by decide +kernel
  have e3 : (4573923408821661840 : Int) / 288230376151711744 = 15 := by decide +kernel
  go_enter Tryd.func66, Tryd.ntmps66
  go_wp2
  go_ret
  exact ⟨rfl, rfl⟩
theorem tz_any (w : World) (h : DbT w) : Calls Tryd.prog 57 #[.int .u64 16] w fun e w' => e = .returned (.int .i64 4) ∧ w' = w := by
  go_enter Tryd.func57, Tryd.ntmps57
  go_wp2_with fail
  refine (tz64 w h).mono ?_
  rintro ev w' ⟨rfl, rfl⟩
  go_wp2
  go_ret
  exact ⟨rfl, rfl⟩
theorem pow_two (w : World) : Calls Tryd.prog 56 #[.int .i64 16] w fun e w' => e = .returned (.bool true) ∧ w' = w := by
  have b1 : bits .and .i64 16 15 = 0 := by decide +kernel
  go_enter Tryd.func56, Tryd.ntmps56
  go_wp2
  go_ret
  exact ⟨rfl, rfl⟩
theorem hexD_36 : ∀ (q : Nat), q < 16 → ∀ h, (({ data := #[48, 49, 50, 51, 52, 53, 54, 55, 56, 57, 97, 98, 99, 100, 101, 102, 103, 104, 105, 106, 107, 108, 109, 110, 111, 112, 113, 114, 115, 116, 117, 118, 119, 120, 121, 122] } : ByteArray)[q]'h) = hexD q := by
  have : ∀ q : Fin 16, (({ data := #[48, 49, 50, 51, 52, 53, 54, 55, 56, 57, 97, 98, 99, 100, 101, 102, 103, 104, 105, 106, 107, 108, 109, 110, 111, 112, 113, 114, 115, 116, 117, 118, 119, 120, 121, 122] } : ByteArray)[q.val]'(Nat.lt_of_lt_of_le q.isLt (by decide))) = hexD q.val := by decide +kernel
  exact fun q h _ => this ⟨q, h⟩
theorem conv_one (w : World) (b o : Nat) (c : UInt8) (h : w.cell? ⟨b, o, none⟩ = some (.int .u8 (c.toNat : Int))) : (convert 23 9 (.slice (some ⟨b, o, none⟩) 1 1)).run Tryd.prog w = .ok (.string ⟨#[c]⟩) w := by
  have e : (⟨#[c]⟩ : ByteArray) = ⟨[c].toArray⟩ := rfl
  rw [e, ← str_nums]
  refine run_convert_bytes_arg (P := Tryd.prog) w 23 5 Tryd.underlying23 Tryd.underlying5 b o 1 1 _ rfl (fun i hi => ?_) 9 Tryd.underlying9
  obtain rfl : i = 0 := by omega
  simpa using h
set_option maxRecDepth 100000 in
set_option maxHeartbeats 800000 in
theorem fmt_bits (u : Nat) (hu : u < 16) (w : World) (h : DbT w) : Calls Tryd.prog 47 #[.slice none 0 0, .int .u64 (u : Int), .int .i64 16, .bool false, .bool false] w fun e w' => e = .returned (.tuple #[.slice none 0 0, .string ⟨#[hexD u]⟩]) ∧ Below w.heap.size w w' := by
  have huI : (u : Int) < 16 := by omega
  have HD := Lib.hid h
  clear h
  go_enter Tryd.func47, Tryd.ntmps47
  go_wp2_with fail
  obtain ⟨wa, hwa⟩ : ∃ wa, wa = w.alloc (Obj.cells Tryd.zeroCells109 109) := ⟨_, rfl⟩
  have Ka := Lib.hid (show Blk wa w.heap.size 109 Tryd.zeroCells109 by rw [hwa]; exact Blk.made _ _ _)
  have La := Lib.hid (show Below w.heap.size w wa by rw [hwa]; exact (Below.refl _ _).alloc (Nat.le_refl _) _)
  rw [← hwa]
  clear hwa
  refine (pow_two wa).mono ?_
  rintro ev w' ⟨rfl, rfl⟩
  go_wp2_with fail
  refine (tz_any _ (HD.out.below La.out)).mono ?_
  rintro ev w' ⟨rfl, rfl⟩
  have c64 := Ka.out.cell (i := 64) (v := .int .u8 0) (by kernel_rfl)
  have f64 := Ka.out.free 64
  have hdig := hexD_36 u hu
  have hcv := conv_one (w'.setCell ⟨w.heap.size, 64, none⟩ (.int .u8 ((hexD u).toNat : Int))) w.heap.size 64 (hexD u) (World.cell?_setCell_same _ _ _ c64)
  go_wp2
  refine wp_loop_rounds 1 ?_
  rw [rounds_succ]
  go_wp2
  go_ret2
  exact ⟨rfl, below_of_grown La.out (grown_put _ _ _) (fun k hk => by have := Option.some.inj hk; simp only at this; omega)⟩
theorem fmt_in (u : Nat) (hu : u < 16) (w : World) (h : DbT w) : Calls Tryd.prog 36 #[.int .i64 (u : Int), .int .i64 16] w fun e w' => e = .returned (.string ⟨#[hexD u]⟩) ∧ Below w.heap.size w w' := by
  have huI : (u : Int) < 16 := by omega
  have d0 : ¬ (u : Int) < 0 := by omega
  have d1 : decide ((u : Int) < 0) = false := by simp
  have e1 : IntKind.u64.wrap (u : Int) = (u : Int) := by rw [IntKind.wrap_u64]; omega
  have HD := Lib.hid h
  clear h
  go_enter Tryd.func36, Tryd.ntmps36
  go_wp2_with fail
  refine (fmt_bits u hu w HD.out).mono ?_
  rintro ev w' ⟨rfl, hb⟩
  have HB := Lib.hid hb
  clear hb
  go_wp2
  go_ret
  exact ⟨rfl, HB.out⟩
theorem fmt_any (u : Nat) (hu : u < 16) (w : World) (h : DbT w) : Calls Tryd.prog 26 #[.int .i64 (u : Int), .int .i64 16] w fun e w' => e = .returned (.string ⟨#[hexD u]⟩) ∧ Below w.heap.size w w' := by
  have HD := Lib.hid h
  clear h
  go_enter Tryd.func26, Tryd.ntmps26
  go_wp2_with fail
  refine (fmt_in u hu w HD.out).mono ?_
  rintro ev w' ⟨rfl, hb⟩
  have HB := Lib.hid hb
  clear hb
  go_wp2
  go_ret
  exact ⟨rfl, HB.out⟩
end Go.Proofs.YtonpihoidjahhaaDoor
