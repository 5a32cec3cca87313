/-
  peatbankkit's bags: a list of no rows lies apart, whatever its kind.
-/
import Derived.Test.YtfehgpjnlkgekaaGreatDoorKitLent
namespace Go.Proofs.YtfehgpjnlkgekaaGreatDoor
open Go.RowKit
set_option linter.unusedVariables false

def Flat (f : FuncId) (w : World) : Prop := Calls Tryz.prog f #[.slice none 0 0] w fun e w' => e = .returned (.bool true) ∧ Below w.heap.size w w'
theorem made_zero (w : World) (t e : TypeId) (z : Value) (b : Nat) (hu : Tryz.prog.underlying t = some (.slice e)) (hi : (Tryz.prog.info? e).map (fun i => (i.zero, i.size, i.bytes)) = some (some z, 1, b)) :
    ∃ w', (Instr.makeSlice t (.int .i64 0) (.int .i64 0)).run Tryz.prog w = .ok (.slice (some ⟨w.heap.size, 0, none⟩) 0 0) w' ∧ w.grownBy w' none := by
  obtain ⟨i0, hi, hz0, hz1, hz2⟩ := info_parts hi
  obtain ⟨w', hrun, r1, r2⟩ := run_make_full (P := Tryz.prog) w 0 t e i0 z 1 hu hi hz0 hz1 .i64 .i64 0 (by omega) (by unfold maxLen; omega) (Nat.zero_le _)
  exact ⟨w', hrun, r2⟩
def Z0 (w : World) (k : Nat) (kv : Value) (wr : World) : Prop := kv = .int .i64 0 ∧ wr = w
set_option maxRecDepth 100000 in
theorem flatLimbs_nil (w : World) : Flat 46 w := by
  obtain ⟨w1, hmk, hg⟩ := made_zero w 69 168 (.slice none 0 0) 24 Tryz.underlying69 (by kernel_rfl)
  have B1 := Lib.hid (bl_n (Below.refl w.heap.size w) hg)
  clear hg
  unfold Flat
  go_enter Tryz.func46, Tryz.ntmps46
  go_wp2
  go_loopg [3] 0 (Z0 w)
  case atStart => exact ⟨rfl, rfl⟩
  case round =>
    obtain ⟨rfl, rfl⟩ := hrel
    go_wp2
    go_loopg [6] 0 (Z0 w1)
    case atStart => exact ⟨rfl, rfl⟩
    case round =>
      obtain ⟨rfl, rfl⟩ := hrel
      go_wp2
      go_loopg [9] 0 (Z0 wr)
      case atStart => exact ⟨rfl, rfl⟩
      case round =>
        obtain ⟨rfl, rfl⟩ := hrel
        go_wp2
        go_loopg [11] 0 (Z0 wr)
        case atStart => exact ⟨rfl, rfl⟩
        case round =>
          obtain ⟨rfl, rfl⟩ := hrel
          go_wp2
          go_loopg [14] 0 (Z0 wr)
          case atStart => exact ⟨rfl, rfl⟩
          case round =>
            obtain ⟨rfl, rfl⟩ := hrel
            go_wp2
            go_ret
            exact ⟨rfl, B1.out⟩
set_option maxRecDepth 100000 in
theorem flatWords_nil (w : World) : Flat 47 w := by
  obtain ⟨w1, hmk, hg⟩ := made_zero w 70 170 (.slice none 0 0) 24 Tryz.underlying70 (by kernel_rfl)
  have B1 := Lib.hid (bl_n (Below.refl w.heap.size w) hg)
  clear hg
  unfold Flat
  go_enter Tryz.func47, Tryz.ntmps47
  go_wp2
  go_loopg [3] 0 (Z0 w)
  case atStart => exact ⟨rfl, rfl⟩
  case round =>
    obtain ⟨rfl, rfl⟩ := hrel
    go_wp2
    go_loopg [6] 0 (Z0 w1)
    case atStart => exact ⟨rfl, rfl⟩
    case round =>
      obtain ⟨rfl, rfl⟩ := hrel
      go_wp2
      go_loopg [9] 0 (Z0 wr)
      case atStart => exact ⟨rfl, rfl⟩
      case round =>
        obtain ⟨rfl, rfl⟩ := hrel
        go_wp2
        go_loopg [11] 0 (Z0 wr)
        case atStart => exact ⟨rfl, rfl⟩
        case round =>
          obtain ⟨rfl, rfl⟩ := hrel
          go_wp2
          go_loopg [14] 0 (Z0 wr)
          case atStart => exact ⟨rfl, rfl⟩
          case round =>
            obtain ⟨rfl, rfl⟩ := hrel
            go_wp2
            go_ret
            exact ⟨rfl, B1.out⟩
set_option maxRecDepth 100000 in
theorem flatInts_nil (w : World) : Flat 48 w := by
  obtain ⟨w1, hmk, hg⟩ := made_zero w 71 43 (.slice none 0 0) 24 Tryz.underlying71 (by kernel_rfl)
  have B1 := Lib.hid (bl_n (Below.refl w.heap.size w) hg)
  clear hg
  unfold Flat
  go_enter Tryz.func48, Tryz.ntmps48
  go_wp2
  go_loopg [3] 0 (Z0 w)
  case atStart => exact ⟨rfl, rfl⟩
  case round =>
    obtain ⟨rfl, rfl⟩ := hrel
    go_wp2
    go_loopg [6] 0 (Z0 w1)
    case atStart => exact ⟨rfl, rfl⟩
    case round =>
      obtain ⟨rfl, rfl⟩ := hrel
      go_wp2
      go_loopg [9] 0 (Z0 wr)
      case atStart => exact ⟨rfl, rfl⟩
      case round =>
        obtain ⟨rfl, rfl⟩ := hrel
        go_wp2
        go_loopg [11] 0 (Z0 wr)
        case atStart => exact ⟨rfl, rfl⟩
        case round =>
          obtain ⟨rfl, rfl⟩ := hrel
          go_wp2
          go_loopg [14] 0 (Z0 wr)
          case atStart => exact ⟨rfl, rfl⟩
          case round =>
            obtain ⟨rfl, rfl⟩ := hrel
            go_wp2
            go_ret
            exact ⟨rfl, B1.out⟩
set_option maxRecDepth 100000 in
theorem flatLongs_nil (w : World) : Flat 49 w := by
  obtain ⟨w1, hmk, hg⟩ := made_zero w 72 171 (.slice none 0 0) 24 Tryz.underlying72 (by kernel_rfl)
  have B1 := Lib.hid (bl_n (Below.refl w.heap.size w) hg)
  clear hg
  unfold Flat
  go_enter Tryz.func49, Tryz.ntmps49
  go_wp2
  go_loopg [3] 0 (Z0 w)
  case atStart => exact ⟨rfl, rfl⟩
  case round =>
    obtain ⟨rfl, rfl⟩ := hrel
    go_wp2
    go_loopg [6] 0 (Z0 w1)
    case atStart => exact ⟨rfl, rfl⟩
    case round =>
      obtain ⟨rfl, rfl⟩ := hrel
      go_wp2
      go_loopg [9] 0 (Z0 wr)
      case atStart => exact ⟨rfl, rfl⟩
      case round =>
        obtain ⟨rfl, rfl⟩ := hrel
        go_wp2
        go_loopg [11] 0 (Z0 wr)
        case atStart => exact ⟨rfl, rfl⟩
        case round =>
          obtain ⟨rfl, rfl⟩ := hrel
          go_wp2
          go_loopg [14] 0 (Z0 wr)
          case atStart => exact ⟨rfl, rfl⟩
          case round =>
            obtain ⟨rfl, rfl⟩ := hrel
            go_wp2
            go_ret
            exact ⟨rfl, B1.out⟩
set_option maxRecDepth 100000 in
theorem flatTexts_nil (w : World) : Flat 50 w := by
  obtain ⟨w1, hmk, hg⟩ := made_zero w 73 36 (.slice none 0 0) 24 Tryz.underlying73 (by kernel_rfl)
  have B1 := Lib.hid (bl_n (Below.refl w.heap.size w) hg)
  clear hg
  unfold Flat
  go_enter Tryz.func50, Tryz.ntmps50
  go_wp2
  go_loopg [3] 0 (Z0 w)
  case atStart => exact ⟨rfl, rfl⟩
  case round =>
    obtain ⟨rfl, rfl⟩ := hrel
    go_wp2
    go_loopg [6] 0 (Z0 w1)
    case atStart => exact ⟨rfl, rfl⟩
    case round =>
      obtain ⟨rfl, rfl⟩ := hrel
      go_wp2
      go_loopg [9] 0 (Z0 wr)
      case atStart => exact ⟨rfl, rfl⟩
      case round =>
        obtain ⟨rfl, rfl⟩ := hrel
        go_wp2
        go_loopg [11] 0 (Z0 wr)
        case atStart => exact ⟨rfl, rfl⟩
        case round =>
          obtain ⟨rfl, rfl⟩ := hrel
          go_wp2
          go_loopg [14] 0 (Z0 wr)
          case atStart => exact ⟨rfl, rfl⟩
          case round =>
            obtain ⟨rfl, rfl⟩ := hrel
            go_wp2
            go_ret
            exact ⟨rfl, B1.out⟩
set_option maxRecDepth 100000 in
theorem flatTreeKeys_nil (w : World) : Flat 52 w := by
  obtain ⟨w1, hmk, hg⟩ := made_zero w 75 174 (.slice none 0 0) 24 Tryz.underlying75 (by kernel_rfl)
  have B1 := Lib.hid (bl_n (Below.refl w.heap.size w) hg)
  clear hg
  unfold Flat
  go_enter Tryz.func52, Tryz.ntmps52
  go_wp2
  go_loopg [3] 0 (Z0 w)
  case atStart => exact ⟨rfl, rfl⟩
  case round =>
    obtain ⟨rfl, rfl⟩ := hrel
    go_wp2
    go_loopg [6] 0 (Z0 w1)
    case atStart => exact ⟨rfl, rfl⟩
    case round =>
      obtain ⟨rfl, rfl⟩ := hrel
      go_wp2
      go_loopg [9] 0 (Z0 wr)
      case atStart => exact ⟨rfl, rfl⟩
      case round =>
        obtain ⟨rfl, rfl⟩ := hrel
        go_wp2
        go_loopg [11] 0 (Z0 wr)
        case atStart => exact ⟨rfl, rfl⟩
        case round =>
          obtain ⟨rfl, rfl⟩ := hrel
          go_wp2
          go_loopg [14] 0 (Z0 wr)
          case atStart => exact ⟨rfl, rfl⟩
          case round =>
            obtain ⟨rfl, rfl⟩ := hrel
            go_wp2
            go_ret
            exact ⟨rfl, B1.out⟩
set_option maxRecDepth 100000 in
theorem flatPieces_nil (w : World) : Flat 53 w := by
  obtain ⟨w1, hmk, hg⟩ := made_zero w 76 178 (.slice none 0 0) 24 Tryz.underlying76 (by kernel_rfl)
  have B1 := Lib.hid (bl_n (Below.refl w.heap.size w) hg)
  clear hg
  unfold Flat
  go_enter Tryz.func53, Tryz.ntmps53
  go_wp2
  go_loopg [3] 0 (Z0 w)
  case atStart => exact ⟨rfl, rfl⟩
  case round =>
    obtain ⟨rfl, rfl⟩ := hrel
    go_wp2
    go_loopg [6] 0 (Z0 w1)
    case atStart => exact ⟨rfl, rfl⟩
    case round =>
      obtain ⟨rfl, rfl⟩ := hrel
      go_wp2
      go_loopg [9] 0 (Z0 wr)
      case atStart => exact ⟨rfl, rfl⟩
      case round =>
        obtain ⟨rfl, rfl⟩ := hrel
        go_wp2
        go_loopg [11] 0 (Z0 wr)
        case atStart => exact ⟨rfl, rfl⟩
        case round =>
          obtain ⟨rfl, rfl⟩ := hrel
          go_wp2
          go_loopg [14] 0 (Z0 wr)
          case atStart => exact ⟨rfl, rfl⟩
          case round =>
            obtain ⟨rfl, rfl⟩ := hrel
            go_wp2
            go_ret
            exact ⟨rfl, B1.out⟩
set_option maxRecDepth 100000 in
theorem flatFates_nil (w : World) : Flat 54 w := by
  obtain ⟨w1, hmk, hg⟩ := made_zero w 77 25 (.slice none 0 0) 24 Tryz.underlying77 (by kernel_rfl)
  have B1 := Lib.hid (bl_n (Below.refl w.heap.size w) hg)
  clear hg
  unfold Flat
  go_enter Tryz.func54, Tryz.ntmps54
  go_wp2
  go_loopg [3] 0 (Z0 w)
  case atStart => exact ⟨rfl, rfl⟩
  case round =>
    obtain ⟨rfl, rfl⟩ := hrel
    go_wp2
    go_loopg [6] 0 (Z0 w1)
    case atStart => exact ⟨rfl, rfl⟩
    case round =>
      obtain ⟨rfl, rfl⟩ := hrel
      go_wp2
      go_loopg [9] 0 (Z0 wr)
      case atStart => exact ⟨rfl, rfl⟩
      case round =>
        obtain ⟨rfl, rfl⟩ := hrel
        go_wp2
        go_loopg [11] 0 (Z0 wr)
        case atStart => exact ⟨rfl, rfl⟩
        case round =>
          obtain ⟨rfl, rfl⟩ := hrel
          go_wp2
          go_loopg [14] 0 (Z0 wr)
          case atStart => exact ⟨rfl, rfl⟩
          case round =>
            obtain ⟨rfl, rfl⟩ := hrel
            go_wp2
            go_ret
            exact ⟨rfl, B1.out⟩
set_option maxRecDepth 100000 in
theorem flatFrames_nil (w : World) : Flat 55 w := by
  obtain ⟨w1, hmk, hg⟩ := made_zero w 78 183 (.slice none 0 0) 24 Tryz.underlying78 (by kernel_rfl)
  have B1 := Lib.hid (bl_n (Below.refl w.heap.size w) hg)
  clear hg
  unfold Flat
  go_enter Tryz.func55, Tryz.ntmps55
  go_wp2
  go_loopg [3] 0 (Z0 w)
  case atStart => exact ⟨rfl, rfl⟩
  case round =>
    obtain ⟨rfl, rfl⟩ := hrel
    go_wp2
    go_loopg [6] 0 (Z0 w1)
    case atStart => exact ⟨rfl, rfl⟩
    case round =>
      obtain ⟨rfl, rfl⟩ := hrel
      go_wp2
      go_loopg [9] 0 (Z0 wr)
      case atStart => exact ⟨rfl, rfl⟩
      case round =>
        obtain ⟨rfl, rfl⟩ := hrel
        go_wp2
        go_loopg [11] 0 (Z0 wr)
        case atStart => exact ⟨rfl, rfl⟩
        case round =>
          obtain ⟨rfl, rfl⟩ := hrel
          go_wp2
          go_loopg [14] 0 (Z0 wr)
          case atStart => exact ⟨rfl, rfl⟩
          case round =>
            obtain ⟨rfl, rfl⟩ := hrel
            go_wp2
            go_ret
            exact ⟨rfl, B1.out⟩
set_option maxRecDepth 100000 in
theorem flatPlaces_nil (w : World) : Flat 56 w := by
  obtain ⟨w1, hmk, hg⟩ := made_zero w 79 188 (.slice none 0 0) 24 Tryz.underlying79 (by kernel_rfl)
  have B1 := Lib.hid (bl_n (Below.refl w.heap.size w) hg)
  clear hg
  unfold Flat
  go_enter Tryz.func56, Tryz.ntmps56
  go_wp2
  go_loopg [3] 0 (Z0 w)
  case atStart => exact ⟨rfl, rfl⟩
  case round =>
    obtain ⟨rfl, rfl⟩ := hrel
    go_wp2
    go_loopg [6] 0 (Z0 w1)
    case atStart => exact ⟨rfl, rfl⟩
    case round =>
      obtain ⟨rfl, rfl⟩ := hrel
      go_wp2
      go_loopg [9] 0 (Z0 wr)
      case atStart => exact ⟨rfl, rfl⟩
      case round =>
        obtain ⟨rfl, rfl⟩ := hrel
        go_wp2
        go_loopg [11] 0 (Z0 wr)
        case atStart => exact ⟨rfl, rfl⟩
        case round =>
          obtain ⟨rfl, rfl⟩ := hrel
          go_wp2
          go_loopg [14] 0 (Z0 wr)
          case atStart => exact ⟨rfl, rfl⟩
          case round =>
            obtain ⟨rfl, rfl⟩ := hrel
            go_wp2
            go_ret
            exact ⟨rfl, B1.out⟩
set_option maxRecDepth 100000 in
theorem flatEntries_nil (w : World) : Flat 57 w := by
  obtain ⟨w1, hmk, hg⟩ := made_zero w 80 192 (.slice none 0 0) 24 Tryz.underlying80 (by kernel_rfl)
  have B1 := Lib.hid (bl_n (Below.refl w.heap.size w) hg)
  clear hg
  unfold Flat
  go_enter Tryz.func57, Tryz.ntmps57
  go_wp2
  go_loopg [3] 0 (Z0 w)
  case atStart => exact ⟨rfl, rfl⟩
  case round =>
    obtain ⟨rfl, rfl⟩ := hrel
    go_wp2
    go_loopg [6] 0 (Z0 w1)
    case atStart => exact ⟨rfl, rfl⟩
    case round =>
      obtain ⟨rfl, rfl⟩ := hrel
      go_wp2
      go_loopg [9] 0 (Z0 wr)
      case atStart => exact ⟨rfl, rfl⟩
      case round =>
        obtain ⟨rfl, rfl⟩ := hrel
        go_wp2
        go_loopg [11] 0 (Z0 wr)
        case atStart => exact ⟨rfl, rfl⟩
        case round =>
          obtain ⟨rfl, rfl⟩ := hrel
          go_wp2
          go_loopg [14] 0 (Z0 wr)
          case atStart => exact ⟨rfl, rfl⟩
          case round =>
            obtain ⟨rfl, rfl⟩ := hrel
            go_wp2
            go_ret
            exact ⟨rfl, B1.out⟩
set_option maxRecDepth 100000 in
theorem flatNodes_nil (w : World) : Flat 58 w := by
  obtain ⟨w1, hmk, hg⟩ := made_zero w 81 197 (.slice none 0 0) 24 Tryz.underlying81 (by kernel_rfl)
  have B1 := Lib.hid (bl_n (Below.refl w.heap.size w) hg)
  clear hg
  unfold Flat
  go_enter Tryz.func58, Tryz.ntmps58
  go_wp2
  go_loopg [3] 0 (Z0 w)
  case atStart => exact ⟨rfl, rfl⟩
  case round =>
    obtain ⟨rfl, rfl⟩ := hrel
    go_wp2
    go_loopg [6] 0 (Z0 w1)
    case atStart => exact ⟨rfl, rfl⟩
    case round =>
      obtain ⟨rfl, rfl⟩ := hrel
      go_wp2
      go_loopg [9] 0 (Z0 wr)
      case atStart => exact ⟨rfl, rfl⟩
      case round =>
        obtain ⟨rfl, rfl⟩ := hrel
        go_wp2
        go_loopg [11] 0 (Z0 wr)
        case atStart => exact ⟨rfl, rfl⟩
        case round =>
          obtain ⟨rfl, rfl⟩ := hrel
          go_wp2
          go_loopg [14] 0 (Z0 wr)
          case atStart => exact ⟨rfl, rfl⟩
          case round =>
            obtain ⟨rfl, rfl⟩ := hrel
            go_wp2
            go_ret
            exact ⟨rfl, B1.out⟩
set_option maxRecDepth 100000 in
theorem flatItems_nil (w : World) : Flat 59 w := by
  obtain ⟨w1, hmk, hg⟩ := made_zero w 82 202 (.slice none 0 0) 24 Tryz.underlying82 (by kernel_rfl)
  have B1 := Lib.hid (bl_n (Below.refl w.heap.size w) hg)
  clear hg
  unfold Flat
  go_enter Tryz.func59, Tryz.ntmps59
  go_wp2
  go_loopg [3] 0 (Z0 w)
  case atStart => exact ⟨rfl, rfl⟩
  case round =>
    obtain ⟨rfl, rfl⟩ := hrel
    go_wp2
    go_loopg [6] 0 (Z0 w1)
    case atStart => exact ⟨rfl, rfl⟩
    case round =>
      obtain ⟨rfl, rfl⟩ := hrel
      go_wp2
      go_loopg [9] 0 (Z0 wr)
      case atStart => exact ⟨rfl, rfl⟩
      case round =>
        obtain ⟨rfl, rfl⟩ := hrel
        go_wp2
        go_loopg [11] 0 (Z0 wr)
        case atStart => exact ⟨rfl, rfl⟩
        case round =>
          obtain ⟨rfl, rfl⟩ := hrel
          go_wp2
          go_loopg [14] 0 (Z0 wr)
          case atStart => exact ⟨rfl, rfl⟩
          case round =>
            obtain ⟨rfl, rfl⟩ := hrel
            go_wp2
            go_ret
            exact ⟨rfl, B1.out⟩
set_option maxRecDepth 100000 in
theorem flatCounts_nil (w : World) : Flat 60 w := by
  obtain ⟨w1, hmk, hg⟩ := made_zero w 83 211 (.slice none 0 0) 24 Tryz.underlying83 (by kernel_rfl)
  have B1 := Lib.hid (bl_n (Below.refl w.heap.size w) hg)
  clear hg
  unfold Flat
  go_enter Tryz.func60, Tryz.ntmps60
  go_wp2
  go_loopg [3] 0 (Z0 w)
  case atStart => exact ⟨rfl, rfl⟩
  case round =>
    obtain ⟨rfl, rfl⟩ := hrel
    go_wp2
    go_loopg [6] 0 (Z0 w1)
    case atStart => exact ⟨rfl, rfl⟩
    case round =>
      obtain ⟨rfl, rfl⟩ := hrel
      go_wp2
      go_loopg [9] 0 (Z0 wr)
      case atStart => exact ⟨rfl, rfl⟩
      case round =>
        obtain ⟨rfl, rfl⟩ := hrel
        go_wp2
        go_loopg [11] 0 (Z0 wr)
        case atStart => exact ⟨rfl, rfl⟩
        case round =>
          obtain ⟨rfl, rfl⟩ := hrel
          go_wp2
          go_loopg [14] 0 (Z0 wr)
          case atStart => exact ⟨rfl, rfl⟩
          case round =>
            obtain ⟨rfl, rfl⟩ := hrel
            go_wp2
            go_ret
            exact ⟨rfl, B1.out⟩
set_option maxRecDepth 100000 in
theorem flatFreshes_nil (w : World) : Flat 61 w := by
  obtain ⟨w1, hmk, hg⟩ := made_zero w 84 215 (.slice none 0 0) 24 Tryz.underlying84 (by kernel_rfl)
  have B1 := Lib.hid (bl_n (Below.refl w.heap.size w) hg)
  clear hg
  unfold Flat
  go_enter Tryz.func61, Tryz.ntmps61
  go_wp2
  go_loopg [3] 0 (Z0 w)
  case atStart => exact ⟨rfl, rfl⟩
  case round =>
    obtain ⟨rfl, rfl⟩ := hrel
    go_wp2
    go_loopg [6] 0 (Z0 w1)
    case atStart => exact ⟨rfl, rfl⟩
    case round =>
      obtain ⟨rfl, rfl⟩ := hrel
      go_wp2
      go_loopg [9] 0 (Z0 wr)
      case atStart => exact ⟨rfl, rfl⟩
      case round =>
        obtain ⟨rfl, rfl⟩ := hrel
        go_wp2
        go_loopg [11] 0 (Z0 wr)
        case atStart => exact ⟨rfl, rfl⟩
        case round =>
          obtain ⟨rfl, rfl⟩ := hrel
          go_wp2
          go_loopg [14] 0 (Z0 wr)
          case atStart => exact ⟨rfl, rfl⟩
          case round =>
            obtain ⟨rfl, rfl⟩ := hrel
            go_wp2
            go_ret
            exact ⟨rfl, B1.out⟩
set_option maxRecDepth 100000 in
theorem flatPuts_nil (w : World) : Flat 62 w := by
  obtain ⟨w1, hmk, hg⟩ := made_zero w 85 219 (.slice none 0 0) 24 Tryz.underlying85 (by kernel_rfl)
  have B1 := Lib.hid (bl_n (Below.refl w.heap.size w) hg)
  clear hg
  unfold Flat
  go_enter Tryz.func62, Tryz.ntmps62
  go_wp2
  go_loopg [3] 0 (Z0 w)
  case atStart => exact ⟨rfl, rfl⟩
  case round =>
    obtain ⟨rfl, rfl⟩ := hrel
    go_wp2
    go_loopg [6] 0 (Z0 w1)
    case atStart => exact ⟨rfl, rfl⟩
    case round =>
      obtain ⟨rfl, rfl⟩ := hrel
      go_wp2
      go_loopg [9] 0 (Z0 wr)
      case atStart => exact ⟨rfl, rfl⟩
      case round =>
        obtain ⟨rfl, rfl⟩ := hrel
        go_wp2
        go_loopg [11] 0 (Z0 wr)
        case atStart => exact ⟨rfl, rfl⟩
        case round =>
          obtain ⟨rfl, rfl⟩ := hrel
          go_wp2
          go_loopg [14] 0 (Z0 wr)
          case atStart => exact ⟨rfl, rfl⟩
          case round =>
            obtain ⟨rfl, rfl⟩ := hrel
            go_wp2
            go_ret
            exact ⟨rfl, B1.out⟩
set_option maxRecDepth 100000 in
theorem flatOps_nil (w : World) : Flat 63 w := by
  obtain ⟨w1, hmk, hg⟩ := made_zero w 86 223 (.slice none 0 0) 24 Tryz.underlying86 (by kernel_rfl)
  have B1 := Lib.hid (bl_n (Below.refl w.heap.size w) hg)
  clear hg
  unfold Flat
  go_enter Tryz.func63, Tryz.ntmps63
  go_wp2
  go_loopg [3] 0 (Z0 w)
  case atStart => exact ⟨rfl, rfl⟩
  case round =>
    obtain ⟨rfl, rfl⟩ := hrel
    go_wp2
    go_loopg [6] 0 (Z0 w1)
    case atStart => exact ⟨rfl, rfl⟩
    case round =>
      obtain ⟨rfl, rfl⟩ := hrel
      go_wp2
      go_loopg [9] 0 (Z0 wr)
      case atStart => exact ⟨rfl, rfl⟩
      case round =>
        obtain ⟨rfl, rfl⟩ := hrel
        go_wp2
        go_loopg [11] 0 (Z0 wr)
        case atStart => exact ⟨rfl, rfl⟩
        case round =>
          obtain ⟨rfl, rfl⟩ := hrel
          go_wp2
          go_loopg [14] 0 (Z0 wr)
          case atStart => exact ⟨rfl, rfl⟩
          case round =>
            obtain ⟨rfl, rfl⟩ := hrel
            go_wp2
            go_ret
            exact ⟨rfl, B1.out⟩
set_option maxRecDepth 100000 in
theorem flatSteps_nil (w : World) : Flat 64 w := by
  obtain ⟨w1, hmk, hg⟩ := made_zero w 34 33 (.slice none 0 0) 24 Tryz.underlying34 (by kernel_rfl)
  have B1 := Lib.hid (bl_n (Below.refl w.heap.size w) hg)
  clear hg
  unfold Flat
  go_enter Tryz.func64, Tryz.ntmps64
  go_wp2
  go_loopg [3] 0 (Z0 w)
  case atStart => exact ⟨rfl, rfl⟩
  case round =>
    obtain ⟨rfl, rfl⟩ := hrel
    go_wp2
    go_loopg [6] 0 (Z0 w1)
    case atStart => exact ⟨rfl, rfl⟩
    case round =>
      obtain ⟨rfl, rfl⟩ := hrel
      go_wp2
      go_loopg [9] 0 (Z0 wr)
      case atStart => exact ⟨rfl, rfl⟩
      case round =>
        obtain ⟨rfl, rfl⟩ := hrel
        go_wp2
        go_loopg [11] 0 (Z0 wr)
        case atStart => exact ⟨rfl, rfl⟩
        case round =>
          obtain ⟨rfl, rfl⟩ := hrel
          go_wp2
          go_loopg [14] 0 (Z0 wr)
          case atStart => exact ⟨rfl, rfl⟩
          case round =>
            obtain ⟨rfl, rfl⟩ := hrel
            go_wp2
            go_ret
            exact ⟨rfl, B1.out⟩
set_option maxRecDepth 100000 in
theorem flatStats_nil (w : World) : Flat 65 w := by
  obtain ⟨w1, hmk, hg⟩ := made_zero w 87 230 (.slice none 0 0) 24 Tryz.underlying87 (by kernel_rfl)
  have B1 := Lib.hid (bl_n (Below.refl w.heap.size w) hg)
  clear hg
  unfold Flat
  go_enter Tryz.func65, Tryz.ntmps65
  go_wp2
  go_loopg [3] 0 (Z0 w)
  case atStart => exact ⟨rfl, rfl⟩
  case round =>
    obtain ⟨rfl, rfl⟩ := hrel
    go_wp2
    go_loopg [6] 0 (Z0 w1)
    case atStart => exact ⟨rfl, rfl⟩
    case round =>
      obtain ⟨rfl, rfl⟩ := hrel
      go_wp2
      go_loopg [9] 0 (Z0 wr)
      case atStart => exact ⟨rfl, rfl⟩
      case round =>
        obtain ⟨rfl, rfl⟩ := hrel
        go_wp2
        go_loopg [11] 0 (Z0 wr)
        case atStart => exact ⟨rfl, rfl⟩
        case round =>
          obtain ⟨rfl, rfl⟩ := hrel
          go_wp2
          go_loopg [14] 0 (Z0 wr)
          case atStart => exact ⟨rfl, rfl⟩
          case round =>
            obtain ⟨rfl, rfl⟩ := hrel
            go_wp2
            go_ret
            exact ⟨rfl, B1.out⟩
set_option maxRecDepth 100000 in
theorem flatTales_nil (w : World) : Flat 66 w := by
  obtain ⟨w1, hmk, hg⟩ := made_zero w 88 232 (.slice none 0 0) 24 Tryz.underlying88 (by kernel_rfl)
  have B1 := Lib.hid (bl_n (Below.refl w.heap.size w) hg)
  clear hg
  unfold Flat
  go_enter Tryz.func66, Tryz.ntmps66
  go_wp2
  go_loopg [3] 0 (Z0 w)
  case atStart => exact ⟨rfl, rfl⟩
  case round =>
    obtain ⟨rfl, rfl⟩ := hrel
    go_wp2
    go_loopg [6] 0 (Z0 w1)
    case atStart => exact ⟨rfl, rfl⟩
    case round =>
      obtain ⟨rfl, rfl⟩ := hrel
      go_wp2
      go_loopg [9] 0 (Z0 wr)
      case atStart => exact ⟨rfl, rfl⟩
      case round =>
        obtain ⟨rfl, rfl⟩ := hrel
        go_wp2
        go_loopg [11] 0 (Z0 wr)
        case atStart => exact ⟨rfl, rfl⟩
        case round =>
          obtain ⟨rfl, rfl⟩ := hrel
          go_wp2
          go_loopg [14] 0 (Z0 wr)
          case atStart => exact ⟨rfl, rfl⟩
          case round =>
            obtain ⟨rfl, rfl⟩ := hrel
            go_wp2
            go_ret
            exact ⟨rfl, B1.out⟩
end Go.Proofs.YtfehgpjnlkgekaaGreatDoor
