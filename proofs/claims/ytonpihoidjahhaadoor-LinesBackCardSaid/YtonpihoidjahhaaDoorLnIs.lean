/-
  errors.Is, of lines' error.
-/
import Derived.Test.YtonpihoidjahhaaDoorLnNum
import Derived.LaidEql
import Derived.Stop.Asserts
import Derived.RowKitTokens
import Derived.LoopN
namespace Go.Proofs.YtonpihoidjahhaaDoor
open Go.RowKit Go.Extern.Stop Go.Stop Go.Extern
set_option linter.unusedVariables false
set_option linter.unusedSimpArgs false

theorem is_eq (w : World) : (binOp BinOp.eql 59 (.iface 66 (.agg #[])) (.iface 66 (.agg #[]))).run Tryd.prog w = .ok (.bool true) w := by kernel_rfl
theorem is_type (v : Value) (w : World) : (Extern.ReflectliteType.typeOf #[.iface 66 v]).run Tryd.prog w = .ok (.iface 95 (.agg #[typeHandle Tryd.prog 66])) w := by kernel_rfl
theorem is_comp (w : World) : ((Extern.ReflectliteType.method fun t => do Extern.Rtype.noPackHeld "Comparable" t; pure (.bool (← typeInfo t).comparable)) #[.agg #[typeHandle Tryd.prog 66]]).run Tryd.prog w = .ok (.bool true) w := by kernel_rfl
theorem is_call (w : World) : (callFunc 103 #[.agg #[typeHandle Tryd.prog 66]]).run Tryd.prog w = .ok (.value (.bool true)) w := by
  have h := @run_callFunc_extern Tryd.prog 103 _ (Extern.ReflectliteType.method fun t => do Extern.Rtype.noPackHeld "Comparable" t; pure (.bool (← typeInfo t).comparable)) Tryd.func103 (by kernel_rfl) (by kernel_rfl) (by kernel_rfl) (by kernel_rfl) #[.agg #[typeHandle Tryd.prog 66]] w
  rw [h, is_comp]
  rfl
theorem is_nil (w : World) : Calls Tryd.prog 29 #[.nilIface, wrongV] w fun e w' => e = .returned (.bool false) ∧ w' = w := by
  unfold wrongV
  have hn := run_eql_iface_nil_left (P := Tryd.prog) w 66 (.agg #[]) Tryd.underlying59
  go_enter Tryd.func29, Tryd.ntmps29
  go_wp2
  go_ret
  exact ⟨rfl, rfl⟩
set_option maxRecDepth 200000 in
theorem is_wrong (w : World) : Calls Tryd.prog 29 #[wrongV, wrongV] w fun e w' => e = .returned (.bool true) ∧ w' = w := by
  unfold wrongV
  have h8 := @run_callFunc_extern Tryd.prog 41 _ Extern.ReflectliteType.typeOf Tryd.func41 (by kernel_rfl) (by kernel_rfl) (by kernel_rfl) (by kernel_rfl)
  have tT := is_type
  have cT := is_call
  have heq := is_eq
  go_enter Tryd.func29, Tryd.ntmps29
  go_wp2
  refine wp_loop_rounds 1 ?_
  rw [rounds_succ]
  go_wp2
  go_ret
  exact ⟨rfl, rfl⟩
end Go.Proofs.YtonpihoidjahhaaDoor
