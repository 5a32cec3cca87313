/-
  peatbankkit's bags: a list of no rows lies apart, whatever its kind.
-/
import Derived.Test.YtacidmamfkfipaaDoorKitBytes
namespace Go.Proofs.YtacidmamfkfipaaDoor
open Go.RowKit
set_option linter.unusedVariables false

def Flat (f : FuncId) (w : World) : Prop := Calls Tryd.prog f #[.slice none 0 0] w fun e w' => e = .returned (.bool true) ∧ Below w.heap.size w w'
theorem made_zero (w : World) (t e : TypeId) (z : Value) (b : Nat) (hu : Tryd.prog.underlying t = some (.slice e)) (hi : (Tryd.prog.info? e).map (fun i => (i.zero, i.size, i.bytes)) = some (some z, 1, b)) :
    ∃ w', (Instr.makeSlice t (.int .i64 0) (.int .i64 0)).run Tryd.prog w = .ok (.slice (some ⟨w.heap.size, 0, none⟩) 0 0) w' ∧ w.grownBy w' none := by
  obtain ⟨i0, hi, hz0, hz1, hz2⟩ := info_parts hi
  obtain ⟨w', hrun, r1, r2⟩ := run_make_full (P := Tryd.prog) w 0 t e i0 z 1 hu hi hz0 hz1 .i64 .i64 0 (by omega) (by unfold maxLen; omega) (Nat.zero_le _)
  exact ⟨w', hrun, r2⟩
def Z0 (w : World) (k : Nat) (kv : Value) (wr : World) : Prop := kv = .int .i64 0 ∧ wr = w
set_option maxRecDepth 100000 in
theorem flatLimbs_nil (w : World) : Flat 65 w := by
  obtain ⟨w1, hmk, hg⟩ := made_zero w 67 159 (.slice none 0 0) 24 Tryd.underlying67 (by kernel_rfl)
  have B1 := Lib.hid (bl_n (Below.refl w.heap.size w) hg)
  clear hg
  unfold Flat
  go_enter Tryd.func65, Tryd.ntmps65
  go_wp2
  go_loopg [3] 0 (Z0 w)
  case atStart => exact ⟨rfl, rfl⟩
  case round =>
    obtain ⟨rfl, rfl⟩ := hrel
    go_wp2
    go_loopg [6] 0 (Z0 w1)
    case atStart => exact ⟨rfl, rfl⟩
    case round =>
      obtain ⟨rfl, rfl⟩ := hrel
      go_wp2
      go_loopg [9] 0 (Z0 wr)
      case atStart => exact ⟨rfl, rfl⟩
      case round =>
        obtain ⟨rfl, rfl⟩ := hrel
        go_wp2
        go_loopg [11] 0 (Z0 wr)
        case atStart => exact ⟨rfl, rfl⟩
        case round =>
          obtain ⟨rfl, rfl⟩ := hrel
          go_wp2
          go_loopg [14] 0 (Z0 wr)
          case atStart => exact ⟨rfl, rfl⟩
          case round =>
            obtain ⟨rfl, rfl⟩ := hrel
            go_wp2
            go_ret
            exact ⟨rfl, B1.out⟩
set_option maxRecDepth 100000 in
theorem flatWords_nil (w : World) : Flat 66 w := by
  obtain ⟨w1, hmk, hg⟩ := made_zero w 68 160 (.slice none 0 0) 24 Tryd.underlying68 (by kernel_rfl)
  have B1 := Lib.hid (bl_n (Below.refl w.heap.size w) hg)
  clear hg
  unfold Flat
  go_enter Tryd.func66, Tryd.ntmps66
  go_wp2
  go_loopg [3] 0 (Z0 w)
  case atStart => exact ⟨rfl, rfl⟩
  case round =>
    obtain ⟨rfl, rfl⟩ := hrel
    go_wp2
    go_loopg [6] 0 (Z0 w1)
    case atStart => exact ⟨rfl, rfl⟩
    case round =>
      obtain ⟨rfl, rfl⟩ := hrel
      go_wp2
      go_loopg [9] 0 (Z0 wr)
      case atStart => exact ⟨rfl, rfl⟩
      case round =>
        obtain ⟨rfl, rfl⟩ := hrel
        go_wp2
        go_loopg [11] 0 (Z0 wr)
        case atStart => exact ⟨rfl, rfl⟩
        case round =>
          obtain ⟨rfl, rfl⟩ := hrel
          go_wp2
          go_loopg [14] 0 (Z0 wr)
          case atStart => exact ⟨rfl, rfl⟩
          case round =>
            obtain ⟨rfl, rfl⟩ := hrel
            go_wp2
            go_ret
            exact ⟨rfl, B1.out⟩
set_option maxRecDepth 100000 in
theorem flatInts_nil (w : World) : Flat 67 w := by
  obtain ⟨w1, hmk, hg⟩ := made_zero w 69 45 (.slice none 0 0) 24 Tryd.underlying69 (by kernel_rfl)
  have B1 := Lib.hid (bl_n (Below.refl w.heap.size w) hg)
  clear hg
  unfold Flat
  go_enter Tryd.func67, Tryd.ntmps67
  go_wp2
  go_loopg [3] 0 (Z0 w)
  case atStart => exact ⟨rfl, rfl⟩
  case round =>
    obtain ⟨rfl, rfl⟩ := hrel
    go_wp2
    go_loopg [6] 0 (Z0 w1)
    case atStart => exact ⟨rfl, rfl⟩
    case round =>
      obtain ⟨rfl, rfl⟩ := hrel
      go_wp2
      go_loopg [9] 0 (Z0 wr)
      case atStart => exact ⟨rfl, rfl⟩
      case round =>
        obtain ⟨rfl, rfl⟩ := hrel
        go_wp2
        go_loopg [11] 0 (Z0 wr)
        case atStart => exact ⟨rfl, rfl⟩
        case round =>
          obtain ⟨rfl, rfl⟩ := hrel
          go_wp2
          go_loopg [14] 0 (Z0 wr)
          case atStart => exact ⟨rfl, rfl⟩
          case round =>
            obtain ⟨rfl, rfl⟩ := hrel
            go_wp2
            go_ret
            exact ⟨rfl, B1.out⟩
set_option maxRecDepth 100000 in
theorem flatLongs_nil (w : World) : Flat 68 w := by
  obtain ⟨w1, hmk, hg⟩ := made_zero w 70 161 (.slice none 0 0) 24 Tryd.underlying70 (by kernel_rfl)
  have B1 := Lib.hid (bl_n (Below.refl w.heap.size w) hg)
  clear hg
  unfold Flat
  go_enter Tryd.func68, Tryd.ntmps68
  go_wp2
  go_loopg [3] 0 (Z0 w)
  case atStart => exact ⟨rfl, rfl⟩
  case round =>
    obtain ⟨rfl, rfl⟩ := hrel
    go_wp2
    go_loopg [6] 0 (Z0 w1)
    case atStart => exact ⟨rfl, rfl⟩
    case round =>
      obtain ⟨rfl, rfl⟩ := hrel
      go_wp2
      go_loopg [9] 0 (Z0 wr)
      case atStart => exact ⟨rfl, rfl⟩
      case round =>
        obtain ⟨rfl, rfl⟩ := hrel
        go_wp2
        go_loopg [11] 0 (Z0 wr)
        case atStart => exact ⟨rfl, rfl⟩
        case round =>
          obtain ⟨rfl, rfl⟩ := hrel
          go_wp2
          go_loopg [14] 0 (Z0 wr)
          case atStart => exact ⟨rfl, rfl⟩
          case round =>
            obtain ⟨rfl, rfl⟩ := hrel
            go_wp2
            go_ret
            exact ⟨rfl, B1.out⟩
set_option maxRecDepth 100000 in
theorem flatTexts_nil (w : World) : Flat 69 w := by
  obtain ⟨w1, hmk, hg⟩ := made_zero w 71 162 (.slice none 0 0) 24 Tryd.underlying71 (by kernel_rfl)
  have B1 := Lib.hid (bl_n (Below.refl w.heap.size w) hg)
  clear hg
  unfold Flat
  go_enter Tryd.func69, Tryd.ntmps69
  go_wp2
  go_loopg [3] 0 (Z0 w)
  case atStart => exact ⟨rfl, rfl⟩
  case round =>
    obtain ⟨rfl, rfl⟩ := hrel
    go_wp2
    go_loopg [6] 0 (Z0 w1)
    case atStart => exact ⟨rfl, rfl⟩
    case round =>
      obtain ⟨rfl, rfl⟩ := hrel
      go_wp2
      go_loopg [9] 0 (Z0 wr)
      case atStart => exact ⟨rfl, rfl⟩
      case round =>
        obtain ⟨rfl, rfl⟩ := hrel
        go_wp2
        go_loopg [11] 0 (Z0 wr)
        case atStart => exact ⟨rfl, rfl⟩
        case round =>
          obtain ⟨rfl, rfl⟩ := hrel
          go_wp2
          go_loopg [14] 0 (Z0 wr)
          case atStart => exact ⟨rfl, rfl⟩
          case round =>
            obtain ⟨rfl, rfl⟩ := hrel
            go_wp2
            go_ret
            exact ⟨rfl, B1.out⟩
set_option maxRecDepth 100000 in
theorem flatTreeKeys_nil (w : World) : Flat 71 w := by
  obtain ⟨w1, hmk, hg⟩ := made_zero w 72 164 (.slice none 0 0) 24 Tryd.underlying72 (by kernel_rfl)
  have B1 := Lib.hid (bl_n (Below.refl w.heap.size w) hg)
  clear hg
  unfold Flat
  go_enter Tryd.func71, Tryd.ntmps71
  go_wp2
  go_loopg [3] 0 (Z0 w)
  case atStart => exact ⟨rfl, rfl⟩
  case round =>
    obtain ⟨rfl, rfl⟩ := hrel
    go_wp2
    go_loopg [6] 0 (Z0 w1)
    case atStart => exact ⟨rfl, rfl⟩
    case round =>
      obtain ⟨rfl, rfl⟩ := hrel
      go_wp2
      go_loopg [9] 0 (Z0 wr)
      case atStart => exact ⟨rfl, rfl⟩
      case round =>
        obtain ⟨rfl, rfl⟩ := hrel
        go_wp2
        go_loopg [11] 0 (Z0 wr)
        case atStart => exact ⟨rfl, rfl⟩
        case round =>
          obtain ⟨rfl, rfl⟩ := hrel
          go_wp2
          go_loopg [14] 0 (Z0 wr)
          case atStart => exact ⟨rfl, rfl⟩
          case round =>
            obtain ⟨rfl, rfl⟩ := hrel
            go_wp2
            go_ret
            exact ⟨rfl, B1.out⟩
set_option maxRecDepth 100000 in
theorem flatPieces_nil (w : World) : Flat 72 w := by
  obtain ⟨w1, hmk, hg⟩ := made_zero w 73 36 (.slice none 0 0) 24 Tryd.underlying73 (by kernel_rfl)
  have B1 := Lib.hid (bl_n (Below.refl w.heap.size w) hg)
  clear hg
  unfold Flat
  go_enter Tryd.func72, Tryd.ntmps72
  go_wp2
  go_loopg [3] 0 (Z0 w)
  case atStart => exact ⟨rfl, rfl⟩
  case round =>
    obtain ⟨rfl, rfl⟩ := hrel
    go_wp2
    go_loopg [6] 0 (Z0 w1)
    case atStart => exact ⟨rfl, rfl⟩
    case round =>
      obtain ⟨rfl, rfl⟩ := hrel
      go_wp2
      go_loopg [9] 0 (Z0 wr)
      case atStart => exact ⟨rfl, rfl⟩
      case round =>
        obtain ⟨rfl, rfl⟩ := hrel
        go_wp2
        go_loopg [11] 0 (Z0 wr)
        case atStart => exact ⟨rfl, rfl⟩
        case round =>
          obtain ⟨rfl, rfl⟩ := hrel
          go_wp2
          go_loopg [14] 0 (Z0 wr)
          case atStart => exact ⟨rfl, rfl⟩
          case round =>
            obtain ⟨rfl, rfl⟩ := hrel
            go_wp2
            go_ret
            exact ⟨rfl, B1.out⟩
set_option maxRecDepth 100000 in
theorem flatFates_nil (w : World) : Flat 73 w := by
  obtain ⟨w1, hmk, hg⟩ := made_zero w 74 169 (.slice none 0 0) 24 Tryd.underlying74 (by kernel_rfl)
  have B1 := Lib.hid (bl_n (Below.refl w.heap.size w) hg)
  clear hg
  unfold Flat
  go_enter Tryd.func73, Tryd.ntmps73
  go_wp2
  go_loopg [3] 0 (Z0 w)
  case atStart => exact ⟨rfl, rfl⟩
  case round =>
    obtain ⟨rfl, rfl⟩ := hrel
    go_wp2
    go_loopg [6] 0 (Z0 w1)
    case atStart => exact ⟨rfl, rfl⟩
    case round =>
      obtain ⟨rfl, rfl⟩ := hrel
      go_wp2
      go_loopg [9] 0 (Z0 wr)
      case atStart => exact ⟨rfl, rfl⟩
      case round =>
        obtain ⟨rfl, rfl⟩ := hrel
        go_wp2
        go_loopg [11] 0 (Z0 wr)
        case atStart => exact ⟨rfl, rfl⟩
        case round =>
          obtain ⟨rfl, rfl⟩ := hrel
          go_wp2
          go_loopg [14] 0 (Z0 wr)
          case atStart => exact ⟨rfl, rfl⟩
          case round =>
            obtain ⟨rfl, rfl⟩ := hrel
            go_wp2
            go_ret
            exact ⟨rfl, B1.out⟩
set_option maxRecDepth 100000 in
theorem flatFrames_nil (w : World) : Flat 74 w := by
  obtain ⟨w1, hmk, hg⟩ := made_zero w 75 173 (.slice none 0 0) 24 Tryd.underlying75 (by kernel_rfl)
  have B1 := Lib.hid (bl_n (Below.refl w.heap.size w) hg)
  clear hg
  unfold Flat
  go_enter Tryd.func74, Tryd.ntmps74
  go_wp2
  go_loopg [3] 0 (Z0 w)
  case atStart => exact ⟨rfl, rfl⟩
  case round =>
    obtain ⟨rfl, rfl⟩ := hrel
    go_wp2
    go_loopg [6] 0 (Z0 w1)
    case atStart => exact ⟨rfl, rfl⟩
    case round =>
      obtain ⟨rfl, rfl⟩ := hrel
      go_wp2
      go_loopg [9] 0 (Z0 wr)
      case atStart => exact ⟨rfl, rfl⟩
      case round =>
        obtain ⟨rfl, rfl⟩ := hrel
        go_wp2
        go_loopg [11] 0 (Z0 wr)
        case atStart => exact ⟨rfl, rfl⟩
        case round =>
          obtain ⟨rfl, rfl⟩ := hrel
          go_wp2
          go_loopg [14] 0 (Z0 wr)
          case atStart => exact ⟨rfl, rfl⟩
          case round =>
            obtain ⟨rfl, rfl⟩ := hrel
            go_wp2
            go_ret
            exact ⟨rfl, B1.out⟩
set_option maxRecDepth 100000 in
theorem flatPlaces_nil (w : World) : Flat 75 w := by
  obtain ⟨w1, hmk, hg⟩ := made_zero w 76 178 (.slice none 0 0) 24 Tryd.underlying76 (by kernel_rfl)
  have B1 := Lib.hid (bl_n (Below.refl w.heap.size w) hg)
  clear hg
  unfold Flat
  go_enter Tryd.func75, Tryd.ntmps75
  go_wp2
  go_loopg [3] 0 (Z0 w)
  case atStart => exact ⟨rfl, rfl⟩
  case round =>
    obtain ⟨rfl, rfl⟩ := hrel
    go_wp2
    go_loopg [6] 0 (Z0 w1)
    case atStart => exact ⟨rfl, rfl⟩
    case round =>
      obtain ⟨rfl, rfl⟩ := hrel
      go_wp2
      go_loopg [9] 0 (Z0 wr)
      case atStart => exact ⟨rfl, rfl⟩
      case round =>
        obtain ⟨rfl, rfl⟩ := hrel
        go_wp2
        go_loopg [11] 0 (Z0 wr)
        case atStart => exact ⟨rfl, rfl⟩
        case round =>
          obtain ⟨rfl, rfl⟩ := hrel
          go_wp2
          go_loopg [14] 0 (Z0 wr)
          case atStart => exact ⟨rfl, rfl⟩
          case round =>
            obtain ⟨rfl, rfl⟩ := hrel
            go_wp2
            go_ret
            exact ⟨rfl, B1.out⟩
set_option maxRecDepth 100000 in
theorem flatEntries_nil (w : World) : Flat 76 w := by
  obtain ⟨w1, hmk, hg⟩ := made_zero w 77 182 (.slice none 0 0) 24 Tryd.underlying77 (by kernel_rfl)
  have B1 := Lib.hid (bl_n (Below.refl w.heap.size w) hg)
  clear hg
  unfold Flat
  go_enter Tryd.func76, Tryd.ntmps76
  go_wp2
  go_loopg [3] 0 (Z0 w)
  case atStart => exact ⟨rfl, rfl⟩
  case round =>
    obtain ⟨rfl, rfl⟩ := hrel
    go_wp2
    go_loopg [6] 0 (Z0 w1)
    case atStart => exact ⟨rfl, rfl⟩
    case round =>
      obtain ⟨rfl, rfl⟩ := hrel
      go_wp2
      go_loopg [9] 0 (Z0 wr)
      case atStart => exact ⟨rfl, rfl⟩
      case round =>
        obtain ⟨rfl, rfl⟩ := hrel
        go_wp2
        go_loopg [11] 0 (Z0 wr)
        case atStart => exact ⟨rfl, rfl⟩
        case round =>
          obtain ⟨rfl, rfl⟩ := hrel
          go_wp2
          go_loopg [14] 0 (Z0 wr)
          case atStart => exact ⟨rfl, rfl⟩
          case round =>
            obtain ⟨rfl, rfl⟩ := hrel
            go_wp2
            go_ret
            exact ⟨rfl, B1.out⟩
set_option maxRecDepth 100000 in
theorem flatNodes_nil (w : World) : Flat 77 w := by
  obtain ⟨w1, hmk, hg⟩ := made_zero w 78 187 (.slice none 0 0) 24 Tryd.underlying78 (by kernel_rfl)
  have B1 := Lib.hid (bl_n (Below.refl w.heap.size w) hg)
  clear hg
  unfold Flat
  go_enter Tryd.func77, Tryd.ntmps77
  go_wp2
  go_loopg [3] 0 (Z0 w)
  case atStart => exact ⟨rfl, rfl⟩
  case round =>
    obtain ⟨rfl, rfl⟩ := hrel
    go_wp2
    go_loopg [6] 0 (Z0 w1)
    case atStart => exact ⟨rfl, rfl⟩
    case round =>
      obtain ⟨rfl, rfl⟩ := hrel
      go_wp2
      go_loopg [9] 0 (Z0 wr)
      case atStart => exact ⟨rfl, rfl⟩
      case round =>
        obtain ⟨rfl, rfl⟩ := hrel
        go_wp2
        go_loopg [11] 0 (Z0 wr)
        case atStart => exact ⟨rfl, rfl⟩
        case round =>
          obtain ⟨rfl, rfl⟩ := hrel
          go_wp2
          go_loopg [14] 0 (Z0 wr)
          case atStart => exact ⟨rfl, rfl⟩
          case round =>
            obtain ⟨rfl, rfl⟩ := hrel
            go_wp2
            go_ret
            exact ⟨rfl, B1.out⟩
set_option maxRecDepth 100000 in
theorem flatItems_nil (w : World) : Flat 78 w := by
  obtain ⟨w1, hmk, hg⟩ := made_zero w 79 192 (.slice none 0 0) 24 Tryd.underlying79 (by kernel_rfl)
  have B1 := Lib.hid (bl_n (Below.refl w.heap.size w) hg)
  clear hg
  unfold Flat
  go_enter Tryd.func78, Tryd.ntmps78
  go_wp2
  go_loopg [3] 0 (Z0 w)
  case atStart => exact ⟨rfl, rfl⟩
  case round =>
    obtain ⟨rfl, rfl⟩ := hrel
    go_wp2
    go_loopg [6] 0 (Z0 w1)
    case atStart => exact ⟨rfl, rfl⟩
    case round =>
      obtain ⟨rfl, rfl⟩ := hrel
      go_wp2
      go_loopg [9] 0 (Z0 wr)
      case atStart => exact ⟨rfl, rfl⟩
      case round =>
        obtain ⟨rfl, rfl⟩ := hrel
        go_wp2
        go_loopg [11] 0 (Z0 wr)
        case atStart => exact ⟨rfl, rfl⟩
        case round =>
          obtain ⟨rfl, rfl⟩ := hrel
          go_wp2
          go_loopg [14] 0 (Z0 wr)
          case atStart => exact ⟨rfl, rfl⟩
          case round =>
            obtain ⟨rfl, rfl⟩ := hrel
            go_wp2
            go_ret
            exact ⟨rfl, B1.out⟩
set_option maxRecDepth 100000 in
theorem flatCounts_nil (w : World) : Flat 79 w := by
  obtain ⟨w1, hmk, hg⟩ := made_zero w 80 201 (.slice none 0 0) 24 Tryd.underlying80 (by kernel_rfl)
  have B1 := Lib.hid (bl_n (Below.refl w.heap.size w) hg)
  clear hg
  unfold Flat
  go_enter Tryd.func79, Tryd.ntmps79
  go_wp2
  go_loopg [3] 0 (Z0 w)
  case atStart => exact ⟨rfl, rfl⟩
  case round =>
    obtain ⟨rfl, rfl⟩ := hrel
    go_wp2
    go_loopg [6] 0 (Z0 w1)
    case atStart => exact ⟨rfl, rfl⟩
    case round =>
      obtain ⟨rfl, rfl⟩ := hrel
      go_wp2
      go_loopg [9] 0 (Z0 wr)
      case atStart => exact ⟨rfl, rfl⟩
      case round =>
        obtain ⟨rfl, rfl⟩ := hrel
        go_wp2
        go_loopg [11] 0 (Z0 wr)
        case atStart => exact ⟨rfl, rfl⟩
        case round =>
          obtain ⟨rfl, rfl⟩ := hrel
          go_wp2
          go_loopg [14] 0 (Z0 wr)
          case atStart => exact ⟨rfl, rfl⟩
          case round =>
            obtain ⟨rfl, rfl⟩ := hrel
            go_wp2
            go_ret
            exact ⟨rfl, B1.out⟩
set_option maxRecDepth 100000 in
theorem flatFreshes_nil (w : World) : Flat 80 w := by
  obtain ⟨w1, hmk, hg⟩ := made_zero w 81 205 (.slice none 0 0) 24 Tryd.underlying81 (by kernel_rfl)
  have B1 := Lib.hid (bl_n (Below.refl w.heap.size w) hg)
  clear hg
  unfold Flat
  go_enter Tryd.func80, Tryd.ntmps80
  go_wp2
  go_loopg [3] 0 (Z0 w)
  case atStart => exact ⟨rfl, rfl⟩
  case round =>
    obtain ⟨rfl, rfl⟩ := hrel
    go_wp2
    go_loopg [6] 0 (Z0 w1)
    case atStart => exact ⟨rfl, rfl⟩
    case round =>
      obtain ⟨rfl, rfl⟩ := hrel
      go_wp2
      go_loopg [9] 0 (Z0 wr)
      case atStart => exact ⟨rfl, rfl⟩
      case round =>
        obtain ⟨rfl, rfl⟩ := hrel
        go_wp2
        go_loopg [11] 0 (Z0 wr)
        case atStart => exact ⟨rfl, rfl⟩
        case round =>
          obtain ⟨rfl, rfl⟩ := hrel
          go_wp2
          go_loopg [14] 0 (Z0 wr)
          case atStart => exact ⟨rfl, rfl⟩
          case round =>
            obtain ⟨rfl, rfl⟩ := hrel
            go_wp2
            go_ret
            exact ⟨rfl, B1.out⟩
set_option maxRecDepth 100000 in
theorem flatPuts_nil (w : World) : Flat 81 w := by
  obtain ⟨w1, hmk, hg⟩ := made_zero w 82 209 (.slice none 0 0) 24 Tryd.underlying82 (by kernel_rfl)
  have B1 := Lib.hid (bl_n (Below.refl w.heap.size w) hg)
  clear hg
  unfold Flat
  go_enter Tryd.func81, Tryd.ntmps81
  go_wp2
  go_loopg [3] 0 (Z0 w)
  case atStart => exact ⟨rfl, rfl⟩
  case round =>
    obtain ⟨rfl, rfl⟩ := hrel
    go_wp2
    go_loopg [6] 0 (Z0 w1)
    case atStart => exact ⟨rfl, rfl⟩
    case round =>
      obtain ⟨rfl, rfl⟩ := hrel
      go_wp2
      go_loopg [9] 0 (Z0 wr)
      case atStart => exact ⟨rfl, rfl⟩
      case round =>
        obtain ⟨rfl, rfl⟩ := hrel
        go_wp2
        go_loopg [11] 0 (Z0 wr)
        case atStart => exact ⟨rfl, rfl⟩
        case round =>
          obtain ⟨rfl, rfl⟩ := hrel
          go_wp2
          go_loopg [14] 0 (Z0 wr)
          case atStart => exact ⟨rfl, rfl⟩
          case round =>
            obtain ⟨rfl, rfl⟩ := hrel
            go_wp2
            go_ret
            exact ⟨rfl, B1.out⟩
set_option maxRecDepth 100000 in
theorem flatOps_nil (w : World) : Flat 82 w := by
  obtain ⟨w1, hmk, hg⟩ := made_zero w 83 213 (.slice none 0 0) 24 Tryd.underlying83 (by kernel_rfl)
  have B1 := Lib.hid (bl_n (Below.refl w.heap.size w) hg)
  clear hg
  unfold Flat
  go_enter Tryd.func82, Tryd.ntmps82
  go_wp2
  go_loopg [3] 0 (Z0 w)
  case atStart => exact ⟨rfl, rfl⟩
  case round =>
    obtain ⟨rfl, rfl⟩ := hrel
    go_wp2
    go_loopg [6] 0 (Z0 w1)
    case atStart => exact ⟨rfl, rfl⟩
    case round =>
      obtain ⟨rfl, rfl⟩ := hrel
      go_wp2
      go_loopg [9] 0 (Z0 wr)
      case atStart => exact ⟨rfl, rfl⟩
      case round =>
        obtain ⟨rfl, rfl⟩ := hrel
        go_wp2
        go_loopg [11] 0 (Z0 wr)
        case atStart => exact ⟨rfl, rfl⟩
        case round =>
          obtain ⟨rfl, rfl⟩ := hrel
          go_wp2
          go_loopg [14] 0 (Z0 wr)
          case atStart => exact ⟨rfl, rfl⟩
          case round =>
            obtain ⟨rfl, rfl⟩ := hrel
            go_wp2
            go_ret
            exact ⟨rfl, B1.out⟩
set_option maxRecDepth 100000 in
theorem flatSteps_nil (w : World) : Flat 83 w := by
  obtain ⟨w1, hmk, hg⟩ := made_zero w 84 219 (.slice none 0 0) 24 Tryd.underlying84 (by kernel_rfl)
  have B1 := Lib.hid (bl_n (Below.refl w.heap.size w) hg)
  clear hg
  unfold Flat
  go_enter Tryd.func83, Tryd.ntmps83
  go_wp2
  go_loopg [3] 0 (Z0 w)
  case atStart => exact ⟨rfl, rfl⟩
  case round =>
    obtain ⟨rfl, rfl⟩ := hrel
    go_wp2
    go_loopg [6] 0 (Z0 w1)
    case atStart => exact ⟨rfl, rfl⟩
    case round =>
      obtain ⟨rfl, rfl⟩ := hrel
      go_wp2
      go_loopg [9] 0 (Z0 wr)
      case atStart => exact ⟨rfl, rfl⟩
      case round =>
        obtain ⟨rfl, rfl⟩ := hrel
        go_wp2
        go_loopg [11] 0 (Z0 wr)
        case atStart => exact ⟨rfl, rfl⟩
        case round =>
          obtain ⟨rfl, rfl⟩ := hrel
          go_wp2
          go_loopg [14] 0 (Z0 wr)
          case atStart => exact ⟨rfl, rfl⟩
          case round =>
            obtain ⟨rfl, rfl⟩ := hrel
            go_wp2
            go_ret
            exact ⟨rfl, B1.out⟩
set_option maxRecDepth 100000 in
theorem flatStats_nil (w : World) : Flat 84 w := by
  obtain ⟨w1, hmk, hg⟩ := made_zero w 85 225 (.slice none 0 0) 24 Tryd.underlying85 (by kernel_rfl)
  have B1 := Lib.hid (bl_n (Below.refl w.heap.size w) hg)
  clear hg
  unfold Flat
  go_enter Tryd.func84, Tryd.ntmps84
  go_wp2
  go_loopg [3] 0 (Z0 w)
  case atStart => exact ⟨rfl, rfl⟩
  case round =>
    obtain ⟨rfl, rfl⟩ := hrel
    go_wp2
    go_loopg [6] 0 (Z0 w1)
    case atStart => exact ⟨rfl, rfl⟩
    case round =>
      obtain ⟨rfl, rfl⟩ := hrel
      go_wp2
      go_loopg [9] 0 (Z0 wr)
      case atStart => exact ⟨rfl, rfl⟩
      case round =>
        obtain ⟨rfl, rfl⟩ := hrel
        go_wp2
        go_loopg [11] 0 (Z0 wr)
        case atStart => exact ⟨rfl, rfl⟩
        case round =>
          obtain ⟨rfl, rfl⟩ := hrel
          go_wp2
          go_loopg [14] 0 (Z0 wr)
          case atStart => exact ⟨rfl, rfl⟩
          case round =>
            obtain ⟨rfl, rfl⟩ := hrel
            go_wp2
            go_ret
            exact ⟨rfl, B1.out⟩
set_option maxRecDepth 100000 in
theorem flatTales_nil (w : World) : Flat 85 w := by
  obtain ⟨w1, hmk, hg⟩ := made_zero w 86 232 (.slice none 0 0) 24 Tryd.underlying86 (by kernel_rfl)
  have B1 := Lib.hid (bl_n (Below.refl w.heap.size w) hg)
  clear hg
  unfold Flat
  go_enter Tryd.func85, Tryd.ntmps85
  go_wp2
  go_loopg [3] 0 (Z0 w)
  case atStart => exact ⟨rfl, rfl⟩
  case round =>
    obtain ⟨rfl, rfl⟩ := hrel
    go_wp2
    go_loopg [6] 0 (Z0 w1)
    case atStart => exact ⟨rfl, rfl⟩
    case round =>
      obtain ⟨rfl, rfl⟩ := hrel
      go_wp2
      go_loopg [9] 0 (Z0 wr)
      case atStart => exact ⟨rfl, rfl⟩
      case round =>
        obtain ⟨rfl, rfl⟩ := hrel
        go_wp2
        go_loopg [11] 0 (Z0 wr)
        case atStart => exact ⟨rfl, rfl⟩
        case round =>
          obtain ⟨rfl, rfl⟩ := hrel
          go_wp2
          go_loopg [14] 0 (Z0 wr)
          case atStart => exact ⟨rfl, rfl⟩
          case round =>
            obtain ⟨rfl, rfl⟩ := hrel
            go_wp2
            go_ret
            exact ⟨rfl, B1.out⟩
end Go.Proofs.YtacidmamfkfipaaDoor
