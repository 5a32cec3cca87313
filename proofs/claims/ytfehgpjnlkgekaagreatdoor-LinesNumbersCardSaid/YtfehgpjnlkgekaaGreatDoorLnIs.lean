/-
  errors.Is, of lines' error.
-/
import Derived.Test.YtfehgpjnlkgekaaGreatDoorLnNum
import Derived.LaidEql
import Derived.Stop.Asserts
import Derived.RowKitTokens
import Derived.LoopN
namespace Go.Proofs.YtfehgpjnlkgekaaGreatDoor
open Go.RowKit Go.Extern.Stop Go.Stop Go.Extern
set_option linter.unusedVariables false
set_option linter.unusedSimpArgs false

theorem is_eq (w : World) : (binOp BinOp.eql 53 (.iface 58 (.agg #[])) (.iface 58 (.agg #[]))).run Tryz.prog w = .ok (.bool true) w := by kernel_rfl
theorem is_type (v : Value) (w : World) : (Extern.ReflectliteType.typeOf #[.iface 58 v]).run Tryz.prog w = .ok (.iface 156 (.agg #[typeHandle Tryz.prog 58])) w := by kernel_rfl
theorem is_comp (w : World) : ((Extern.ReflectliteType.method fun t => do Extern.Rtype.noPackHeld "Comparable" t; pure (.bool (← typeInfo t).comparable)) #[.agg #[typeHandle Tryz.prog 58]]).run Tryz.prog w = .ok (.bool true) w := by kernel_rfl
theorem is_call (w : World) : (callFunc 173 #[.agg #[typeHandle Tryz.prog 58]]).run Tryz.prog w = .ok (.value (.bool true)) w := by
  have h := @run_callFunc_extern Tryz.prog 173 _ (Extern.ReflectliteType.method fun t => do Extern.Rtype.noPackHeld "Comparable" t; pure (.bool (← typeInfo t).comparable)) Tryz.func173 (by kernel_rfl) (by kernel_rfl) (by kernel_rfl) (by kernel_rfl) #[.agg #[typeHandle Tryz.prog 58]] w
  rw [h, is_comp]
  rfl
theorem is_nil (w : World) : Calls Tryz.prog 18 #[.nilIface, wrongV] w fun e w' => e = .returned (.bool false) ∧ w' = w := by
  unfold wrongV
  have hn := run_eql_iface_nil_left (P := Tryz.prog) w 58 (.agg #[]) Tryz.underlying53
  go_enter Tryz.func18, Tryz.ntmps18
  go_wp2
  go_ret
  exact ⟨rfl, rfl⟩
set_option maxRecDepth 200000 in
theorem is_wrong (w : World) : Calls Tryz.prog 18 #[wrongV, wrongV] w fun e w' => e = .returned (.bool true) ∧ w' = w := by
  unfold wrongV
  have h8 := @run_callFunc_extern Tryz.prog 42 _ Extern.ReflectliteType.typeOf Tryz.func42 (by kernel_rfl) (by kernel_rfl) (by kernel_rfl) (by kernel_rfl)
  have tT := is_type
  have cT := is_call
  have heq := is_eq
  go_enter Tryz.func18, Tryz.ntmps18
  go_wp2
  refine wp_loop_rounds 1 ?_
  rw [rounds_succ]
  go_wp2
  go_ret
  exact ⟨rfl, rfl⟩
end Go.Proofs.YtfehgpjnlkgekaaGreatDoor
